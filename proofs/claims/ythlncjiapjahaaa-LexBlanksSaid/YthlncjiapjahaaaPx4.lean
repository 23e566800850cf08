-- WRITTEN by wip/tools/myprint.py of this session, a program over the kit's print
import Derived.Test.YthlncjiapjahaaaPx0
import Derived.Test.YthlncjiapjahaaaPx1
import Derived.Test.YthlncjiapjahaaaExt
namespace Go.Proofs.Ythlncjiapjahaaa.P
open Go.RowKit Go.Proofs.YthlncjiapjahaaaW.PrintWords Go.Proofs.YthlncjiapjahaaaW.PrintLast Go.Proofs.YthlncjiapjahaaaW.PrintMore
attribute [local go_sem] max2_int min2_int max_two min_two max_three min_three max_four min_four   -- for this text's walks alone
set_option linter.unusedVariables false
set_option linter.unusedSimpArgs false

/-! ### casementlaw18_LexBlanks: function 4 -/
mutual
def casementlaw18_LexBlanks.j0 : Nat → ByteArray → ByteArray → Int → Bool → Option (Bool)
  | 0, _, _, _, _ => none
  | k + 1, x0, x1, x2, x29 => if x29 = true then ((casementlaw18_awake.f k).bind fun t175 => (some t175)) else ((lex_Tokens.f k x0).bind fun bt176 => ((lex_Tokens.f k x1).bind fun bt181 => (if bt176.2.2 = 0 then (casementlaw18_LexBlanks.j1 k x0 x1 x2 bt176.1 bt181.1 (bt181.2.2 != 0)) else (casementlaw18_LexBlanks.j1 k x0 x1 x2 bt176.1 bt181.1 true))))
def casementlaw18_LexBlanks.j1 : Nat → ByteArray → ByteArray → Int → List (S33) → List (S33) → Bool → Option (Bool)
  | 0, _, _, _, _, _, _ => none
  | k + 1, x0, x1, x2, x7, x10, x48 => if x48 = true then ((casementlaw18_awake.f k).bind fun t186 => (some t186)) else (casementlaw18_LexBlanks.l0 k x0 x1 x2 x7 x10 (⟨#[32]⟩ : ByteArray) 0)
def casementlaw18_LexBlanks.l0 : Nat → ByteArray → ByteArray → Int → List (S33) → List (S33) → ByteArray → Int → Option (Bool)
  | 0, _, _, _, _, _, _, _ => none
  | k + 1, x0, x1, x2, x7, x10, x13, x14 => if x14 < (wrap64 (Int.tmod x2 5)) then (if x13.size + 1 ≤ 9223372036854775807 then (casementlaw18_LexBlanks.l0 k x0 x1 x2 x7 x10 (x13 ++ (⟨#[9]⟩ : ByteArray)) (wrap64 (x14 + 1))) else (none)) else (if x13.size + x0.size ≤ 9223372036854775807 then (if (x13 ++ x0).size + x13.size ≤ 9223372036854775807 then (if ((x13 ++ x0) ++ x13).size + x1.size ≤ 9223372036854775807 then (if (((x13 ++ x0) ++ x13) ++ x1).size + x13.size ≤ 9223372036854775807 then ((lex_Tokens.f k ((((x13 ++ x0) ++ x13) ++ x1) ++ x13)).bind fun bt187 => (if bt187.2.2 = 0 then (casementlaw18_LexBlanks.j3 k x0 x7 x10 x13 bt187.1 ((bt187.1.length : Int) != (wrap64 ((wrap64 ((x7.length : Int) + (x10.length : Int))) - 1)))) else (casementlaw18_LexBlanks.j3 k x0 x7 x10 x13 bt187.1 true))) else (none)) else (none)) else (none)) else (none))
def casementlaw18_LexBlanks.j3 : Nat → ByteArray → List (S33) → List (S33) → ByteArray → List (S33) → Bool → Option (Bool)
  | 0, _, _, _, _, _, _ => none
  | k + 1, x0, x7, x10, x13, x15, x85 => if x85 = true then (some false) else (casementlaw18_LexBlanks.l1 k x0 x7 x10 x13 x15 0)
def casementlaw18_LexBlanks.l1 : Nat → ByteArray → List (S33) → List (S33) → ByteArray → List (S33) → Int → Option (Bool)
  | 0, _, _, _, _, _, _ => none
  | k + 1, x0, x7, x10, x13, x15, x18 => if x18 < (x15.length : Int) then (if x18 < (wrap64 ((x7.length : Int) - 1)) then (if 0 ≤ x18 then (if x18 < (x7.length : Int) then (casementlaw18_LexBlanks.j5 k x0 x7 x10 x13 x15 x18 (x13.size : Int) ((rd_T33 x7 x18).f0) ((rd_T33 x7 x18).f1) ((rd_T33 x7 x18).f2)) else (none)) else (none)) else (if 0 ≤ (wrap64 ((wrap64 (x18 - (x7.length : Int))) + 1)) then (if (wrap64 ((wrap64 (x18 - (x7.length : Int))) + 1)) < (x10.length : Int) then (casementlaw18_LexBlanks.j5 k x0 x7 x10 x13 x15 x18 (wrap64 ((wrap64 (2 * (x13.size : Int))) + (x0.size : Int))) ((rd_T33 x10 (wrap64 ((wrap64 (x18 - (x7.length : Int))) + 1))).f0) ((rd_T33 x10 (wrap64 ((wrap64 (x18 - (x7.length : Int))) + 1))).f1) ((rd_T33 x10 (wrap64 ((wrap64 (x18 - (x7.length : Int))) + 1))).f2)) else (none)) else (none))) else ((casementlaw18_awake.f k).bind fun t192 => (some t192))
def casementlaw18_LexBlanks.j5 : Nat → ByteArray → List (S33) → List (S33) → ByteArray → List (S33) → Int → Int → Int → ByteArray → Int → Option (Bool)
  | 0, _, _, _, _, _, _, _, _, _, _ => none
  | k + 1, x0, x7, x10, x13, x15, x18, x20, x194000, x194001, x194002 => if x194000 = 4 then (if 0 ≤ x18 then (if x18 < (x15.length : Int) then (if ((rd_T33 x15 x18).f0) = x194000 then (if ((rd_T33 x15 x18).f1).toList = x194001.toList then (if ((rd_T33 x15 x18).f2) = (wrap64 (x194002 + (wrap64 (x20 + (x13.size : Int))))) then (casementlaw18_LexBlanks.l1 k x0 x7 x10 x13 x15 (wrap64 (x18 + 1))) else (some false)) else (some false)) else (some false)) else (none)) else (none)) else (if 0 ≤ x18 then (if x18 < (x15.length : Int) then (if ((rd_T33 x15 x18).f0) = x194000 then (if ((rd_T33 x15 x18).f1).toList = x194001.toList then (if ((rd_T33 x15 x18).f2) = (wrap64 (x194002 + x20)) then (casementlaw18_LexBlanks.l1 k x0 x7 x10 x13 x15 (wrap64 (x18 + 1))) else (some false)) else (some false)) else (some false)) else (none)) else (none))
end
def casementlaw18_LexBlanks.f (k : Nat) (a0 : ByteArray) (a1 : ByteArray) (a2 : Int) : Option (Bool) := if (a0.size : Int) > 3000 then (casementlaw18_LexBlanks.j0 k a0 a1 a2 true) else (casementlaw18_LexBlanks.j0 k a0 a1 a2 (decide ((a1.size : Int) > 3000)))
theorem casementlaw18_LexBlanks.mono_l : ∀ k, (∀ y0 y1 y2 y3, LeO (casementlaw18_LexBlanks.j0 k y0 y1 y2 y3) (casementlaw18_LexBlanks.j0 (k + 1) y0 y1 y2 y3)) ∧ (∀ y0 y1 y2 y3 y4 y5, LeO (casementlaw18_LexBlanks.j1 k y0 y1 y2 y3 y4 y5) (casementlaw18_LexBlanks.j1 (k + 1) y0 y1 y2 y3 y4 y5)) ∧ (∀ y0 y1 y2 y3 y4 y5 y6, LeO (casementlaw18_LexBlanks.l0 k y0 y1 y2 y3 y4 y5 y6) (casementlaw18_LexBlanks.l0 (k + 1) y0 y1 y2 y3 y4 y5 y6)) ∧ (∀ y0 y1 y2 y3 y4 y5, LeO (casementlaw18_LexBlanks.j3 k y0 y1 y2 y3 y4 y5) (casementlaw18_LexBlanks.j3 (k + 1) y0 y1 y2 y3 y4 y5)) ∧ (∀ y0 y1 y2 y3 y4 y5, LeO (casementlaw18_LexBlanks.l1 k y0 y1 y2 y3 y4 y5) (casementlaw18_LexBlanks.l1 (k + 1) y0 y1 y2 y3 y4 y5)) ∧ (∀ y0 y1 y2 y3 y4 y5 y6 y7 y8 y9, LeO (casementlaw18_LexBlanks.j5 k y0 y1 y2 y3 y4 y5 y6 y7 y8 y9) (casementlaw18_LexBlanks.j5 (k + 1) y0 y1 y2 y3 y4 y5 y6 y7 y8 y9))
  | 0 => ⟨fun _ _ _ _ r h => by simp [casementlaw18_LexBlanks.j0] at h, fun _ _ _ _ _ _ r h => by simp [casementlaw18_LexBlanks.j1] at h, fun _ _ _ _ _ _ _ r h => by simp [casementlaw18_LexBlanks.l0] at h, fun _ _ _ _ _ _ r h => by simp [casementlaw18_LexBlanks.j3] at h, fun _ _ _ _ _ _ r h => by simp [casementlaw18_LexBlanks.l1] at h, fun _ _ _ _ _ _ _ _ _ _ r h => by simp [casementlaw18_LexBlanks.j5] at h⟩
  | k + 1 => by
    obtain ⟨ih0, ih1, ih2, ih3, ih4, ih5⟩ := casementlaw18_LexBlanks.mono_l k
    refine ⟨?_, ?_, ?_, ?_, ?_, ?_⟩
    · intro y0 y1 y2 y3
      unfold casementlaw18_LexBlanks.j0
      repeat' first
      | (with_reducible exact ih0 _ _ _ _)
      | (with_reducible exact ih1 _ _ _ _ _ _)
      | (with_reducible exact ih2 _ _ _ _ _ _ _)
      | (with_reducible exact ih3 _ _ _ _ _ _)
      | (with_reducible exact ih4 _ _ _ _ _ _)
      | (with_reducible exact ih5 _ _ _ _ _ _ _ _ _ _)
      | (with_reducible exact casementlaw18_awake.mono _)
      | (with_reducible exact lex_Tokens.mono _ _)
      | (with_reducible exact LeO.refl _)
      | (with_reducible exact LeO.none _)
      | (with_reducible refine LeO.ite ?_ ?_)
      | (with_reducible refine LeO.bind ?_ (fun _ => ?_))
      | exact ih0 _ _ _ _
      | exact ih1 _ _ _ _ _ _
      | exact ih2 _ _ _ _ _ _ _
      | exact ih3 _ _ _ _ _ _
      | exact ih4 _ _ _ _ _ _
      | exact ih5 _ _ _ _ _ _ _ _ _ _
      | exact casementlaw18_awake.mono _
      | exact lex_Tokens.mono _ _
      | exact LeO.none _
      | refine LeO.ite ?_ ?_
      | refine LeO.bind ?_ (fun _ => ?_)
    · intro y0 y1 y2 y3 y4 y5
      unfold casementlaw18_LexBlanks.j1
      repeat' first
      | (with_reducible exact ih0 _ _ _ _)
      | (with_reducible exact ih1 _ _ _ _ _ _)
      | (with_reducible exact ih2 _ _ _ _ _ _ _)
      | (with_reducible exact ih3 _ _ _ _ _ _)
      | (with_reducible exact ih4 _ _ _ _ _ _)
      | (with_reducible exact ih5 _ _ _ _ _ _ _ _ _ _)
      | (with_reducible exact casementlaw18_awake.mono _)
      | (with_reducible exact lex_Tokens.mono _ _)
      | (with_reducible exact LeO.refl _)
      | (with_reducible exact LeO.none _)
      | (with_reducible refine LeO.ite ?_ ?_)
      | (with_reducible refine LeO.bind ?_ (fun _ => ?_))
      | exact ih0 _ _ _ _
      | exact ih1 _ _ _ _ _ _
      | exact ih2 _ _ _ _ _ _ _
      | exact ih3 _ _ _ _ _ _
      | exact ih4 _ _ _ _ _ _
      | exact ih5 _ _ _ _ _ _ _ _ _ _
      | exact casementlaw18_awake.mono _
      | exact lex_Tokens.mono _ _
      | exact LeO.none _
      | refine LeO.ite ?_ ?_
      | refine LeO.bind ?_ (fun _ => ?_)
    · intro y0 y1 y2 y3 y4 y5 y6
      unfold casementlaw18_LexBlanks.l0
      repeat' first
      | (with_reducible exact ih0 _ _ _ _)
      | (with_reducible exact ih1 _ _ _ _ _ _)
      | (with_reducible exact ih2 _ _ _ _ _ _ _)
      | (with_reducible exact ih3 _ _ _ _ _ _)
      | (with_reducible exact ih4 _ _ _ _ _ _)
      | (with_reducible exact ih5 _ _ _ _ _ _ _ _ _ _)
      | (with_reducible exact casementlaw18_awake.mono _)
      | (with_reducible exact lex_Tokens.mono _ _)
      | (with_reducible exact LeO.refl _)
      | (with_reducible exact LeO.none _)
      | (with_reducible refine LeO.ite ?_ ?_)
      | (with_reducible refine LeO.bind ?_ (fun _ => ?_))
      | exact ih0 _ _ _ _
      | exact ih1 _ _ _ _ _ _
      | exact ih2 _ _ _ _ _ _ _
      | exact ih3 _ _ _ _ _ _
      | exact ih4 _ _ _ _ _ _
      | exact ih5 _ _ _ _ _ _ _ _ _ _
      | exact casementlaw18_awake.mono _
      | exact lex_Tokens.mono _ _
      | exact LeO.none _
      | refine LeO.ite ?_ ?_
      | refine LeO.bind ?_ (fun _ => ?_)
    · intro y0 y1 y2 y3 y4 y5
      unfold casementlaw18_LexBlanks.j3
      repeat' first
      | (with_reducible exact ih0 _ _ _ _)
      | (with_reducible exact ih1 _ _ _ _ _ _)
      | (with_reducible exact ih2 _ _ _ _ _ _ _)
      | (with_reducible exact ih3 _ _ _ _ _ _)
      | (with_reducible exact ih4 _ _ _ _ _ _)
      | (with_reducible exact ih5 _ _ _ _ _ _ _ _ _ _)
      | (with_reducible exact casementlaw18_awake.mono _)
      | (with_reducible exact lex_Tokens.mono _ _)
      | (with_reducible exact LeO.refl _)
      | (with_reducible exact LeO.none _)
      | (with_reducible refine LeO.ite ?_ ?_)
      | (with_reducible refine LeO.bind ?_ (fun _ => ?_))
      | exact ih0 _ _ _ _
      | exact ih1 _ _ _ _ _ _
      | exact ih2 _ _ _ _ _ _ _
      | exact ih3 _ _ _ _ _ _
      | exact ih4 _ _ _ _ _ _
      | exact ih5 _ _ _ _ _ _ _ _ _ _
      | exact casementlaw18_awake.mono _
      | exact lex_Tokens.mono _ _
      | exact LeO.none _
      | refine LeO.ite ?_ ?_
      | refine LeO.bind ?_ (fun _ => ?_)
    · intro y0 y1 y2 y3 y4 y5
      unfold casementlaw18_LexBlanks.l1
      repeat' first
      | (with_reducible exact ih0 _ _ _ _)
      | (with_reducible exact ih1 _ _ _ _ _ _)
      | (with_reducible exact ih2 _ _ _ _ _ _ _)
      | (with_reducible exact ih3 _ _ _ _ _ _)
      | (with_reducible exact ih4 _ _ _ _ _ _)
      | (with_reducible exact ih5 _ _ _ _ _ _ _ _ _ _)
      | (with_reducible exact casementlaw18_awake.mono _)
      | (with_reducible exact lex_Tokens.mono _ _)
      | (with_reducible exact LeO.refl _)
      | (with_reducible exact LeO.none _)
      | (with_reducible refine LeO.ite ?_ ?_)
      | (with_reducible refine LeO.bind ?_ (fun _ => ?_))
      | exact ih0 _ _ _ _
      | exact ih1 _ _ _ _ _ _
      | exact ih2 _ _ _ _ _ _ _
      | exact ih3 _ _ _ _ _ _
      | exact ih4 _ _ _ _ _ _
      | exact ih5 _ _ _ _ _ _ _ _ _ _
      | exact casementlaw18_awake.mono _
      | exact lex_Tokens.mono _ _
      | exact LeO.none _
      | refine LeO.ite ?_ ?_
      | refine LeO.bind ?_ (fun _ => ?_)
    · intro y0 y1 y2 y3 y4 y5 y6 y7 y8 y9
      unfold casementlaw18_LexBlanks.j5
      repeat' first
      | (with_reducible exact ih0 _ _ _ _)
      | (with_reducible exact ih1 _ _ _ _ _ _)
      | (with_reducible exact ih2 _ _ _ _ _ _ _)
      | (with_reducible exact ih3 _ _ _ _ _ _)
      | (with_reducible exact ih4 _ _ _ _ _ _)
      | (with_reducible exact ih5 _ _ _ _ _ _ _ _ _ _)
      | (with_reducible exact casementlaw18_awake.mono _)
      | (with_reducible exact lex_Tokens.mono _ _)
      | (with_reducible exact LeO.refl _)
      | (with_reducible exact LeO.none _)
      | (with_reducible refine LeO.ite ?_ ?_)
      | (with_reducible refine LeO.bind ?_ (fun _ => ?_))
      | exact ih0 _ _ _ _
      | exact ih1 _ _ _ _ _ _
      | exact ih2 _ _ _ _ _ _ _
      | exact ih3 _ _ _ _ _ _
      | exact ih4 _ _ _ _ _ _
      | exact ih5 _ _ _ _ _ _ _ _ _ _
      | exact casementlaw18_awake.mono _
      | exact lex_Tokens.mono _ _
      | exact LeO.none _
      | refine LeO.ite ?_ ?_
      | refine LeO.bind ?_ (fun _ => ?_)
theorem casementlaw18_LexBlanks.mono : ∀ a0 a1 a2 k, LeO (casementlaw18_LexBlanks.f k a0 a1 a2) (casementlaw18_LexBlanks.f (k + 1) a0 a1 a2) := by
  intro a0 a1 a2 k
  obtain ⟨ih0, ih1, ih2, ih3, ih4, ih5⟩ := casementlaw18_LexBlanks.mono_l k
  unfold casementlaw18_LexBlanks.f
  repeat' first
      | (with_reducible exact ih0 _ _ _ _)
      | (with_reducible exact ih1 _ _ _ _ _ _)
      | (with_reducible exact ih2 _ _ _ _ _ _ _)
      | (with_reducible exact ih3 _ _ _ _ _ _)
      | (with_reducible exact ih4 _ _ _ _ _ _)
      | (with_reducible exact ih5 _ _ _ _ _ _ _ _ _ _)
      | (with_reducible exact casementlaw18_awake.mono _)
      | (with_reducible exact lex_Tokens.mono _ _)
      | (with_reducible exact LeO.refl _)
      | (with_reducible exact LeO.none _)
      | (with_reducible refine LeO.ite ?_ ?_)
      | (with_reducible refine LeO.bind ?_ (fun _ => ?_))
      | exact ih0 _ _ _ _
      | exact ih1 _ _ _ _ _ _
      | exact ih2 _ _ _ _ _ _ _
      | exact ih3 _ _ _ _ _ _
      | exact ih4 _ _ _ _ _ _
      | exact ih5 _ _ _ _ _ _ _ _ _ _
      | exact casementlaw18_awake.mono _
      | exact lex_Tokens.mono _ _
      | exact LeO.none _
      | refine LeO.ite ?_ ?_
      | refine LeO.bind ?_ (fun _ => ?_)
set_option maxHeartbeats 8000000 in
set_option maxRecDepth 100000 in
theorem casementlaw18_LexBlanks.calls (k : Nat) (a0 : ByteArray) (a1 : ByteArray) (a2 : Int) (r : Bool) (w : World) (h : casementlaw18_LexBlanks.f k a0 a1 a2 = some r) :
    Calls Try.prog 4 #[.string a0, .string a1, .int .u8 a2] w fun e w' => e = .returned (.bool r) ∧ Below w.heap.size w w' := by
  have hu33 := Try.underlying33
  have HB := Aside0.mk (Below.refl w.heap.size w)
  have H : (if (a0.size : Int) > 3000 then (casementlaw18_LexBlanks.j0 k a0 a1 a2 true) else (casementlaw18_LexBlanks.j0 k a0 a1 a2 (decide ((a1.size : Int) > 3000)))) = some r := h
  clear h
  have HC4 := Aside0.mk H
  clear H
  go_enter Try.func4, Try.ntmps4
  go_upto_region 1 with (fail)
  repeat (go_quiet (fail); go_upto_region 1 with (fail))
  go_cut [29] (fun v29 wc => ∃ (kq : Nat) (x29_3 : Bool), v29 = .bool x29_3 ∧ Aside0 (casementlaw18_LexBlanks.j0 kq a0 a1 a2 x29_3 = some r) ∧ Aside0 (kq ≤ k) ∧ Aside0 (Below w.heap.size w wc))
  case first =>
    have H := HC4.out
    clear HC4
    by_cases c5 : (a0.size : Int) > 3000
    · rw [if_pos c5] at H
      have c5b0 : decide (3000 < (a0.size : Int)) = true := decide_eq_true c5
      have c5b1 : decide (3000 < a0.size) = true := decide_eq_true (by omega)
      clear c5
      (first | rw [c5b0] | (simp only [i64_w, i32_w]; rw [c5b0]) | skip)
      have H' := Aside0.mk H
      clear H
      go_wp2
      repeat (go_quiet (fail); try go_wp2)
      go_meet
      case rel => exact ⟨_, (true), (by first | rfl | (simp; done) | (simp [*]; done) | (congr 2; generalize ByteArray.toList _ = l_; cases l_ <;> rfl)), H', ⟨by first | omega | exact Nat.le_refl _⟩, ⟨by repeat (first | (with_reducible first | exact HB.out | apply below_alloc | apply pw_below_drewN | apply below_drew1) | exact HB.out)⟩⟩
    · rw [if_neg c5] at H
      have c5b0 : decide (3000 < (a0.size : Int)) = false := decide_eq_false c5
      have c5b1 : decide (3000 < a0.size) = false := decide_eq_false (by omega)
      clear c5
      (first | rw [c5b0] | (simp only [i64_w, i32_w]; rw [c5b0]) | skip)
      have H' := Aside0.mk H
      clear H
      go_wp2
      repeat (go_quiet (fail); try go_wp2)
      go_meet
      case rel => exact ⟨_, (decide ((a1.size : Int) > 3000)), (by first | rfl | (simp; done) | (simp [*]; done) | (congr 2; generalize ByteArray.toList _ = l_; cases l_ <;> rfl)), H', ⟨by first | omega | exact Nat.le_refl _⟩, ⟨by repeat (first | (with_reducible first | exact HB.out | apply below_alloc | apply pw_below_drewN | apply below_drew1) | exact HB.out)⟩⟩
  case rest =>
    clear HC4
    try clear p2
    try clear c4
    try clear c5
    try clear c5b0
    try clear c5b1
    obtain ⟨kq, x29_3, rfl, HA, HJ3, HB⟩ := hcut
    cases kq with
    | zero => exact absurd HA.out (by simp [casementlaw18_LexBlanks.j0])
    | succ kj3 =>
      have H := HA.out
      clear HA
      simp only [casementlaw18_LexBlanks.j0] at H
      by_cases c6 : x29_3 = true
      · subst c6
        have H1 : ((casementlaw18_awake.f kj3).bind fun t175 => (some t175)) = some r := by rw [if_pos rfl] at H; exact H
        clear H
        have H := H1
        clear H1
        replace H := Option.bind_eq_some_iff.mp H
        obtain ⟨t175, A70, H⟩ := H
        replace H : (some t175) = some r := H
        have A7 := Aside0.mk A70
        clear A70
        obtain rfl := Option.some.inj H
        go_wp2_with (first | (go_at_call 8; (with_reducible refine (casementlaw18_awake.calls kj3  t175 _ A7.out).mono ?_); rintro e w8 ⟨rfl, hb⟩; have n0_ := Aside0.mk (below_step (by repeat (first | (with_reducible first | exact HB.out | apply below_alloc | apply pw_below_drewN | apply below_drew1) | exact HB.out)) hb); clear HB; have HB := n0_; clear n0_; (try clear hb); (try clear hb2); (try clear hk); (try clear hi)))
        repeat (go_quiet (first | (go_at_call 8; (with_reducible refine (casementlaw18_awake.calls kj3  t175 _ A7.out).mono ?_); rintro e w8 ⟨rfl, hb⟩; have n0_ := Aside0.mk (below_step (by repeat (first | (with_reducible first | exact HB.out | apply below_alloc | apply pw_below_drewN | apply below_drew1) | exact HB.out)) hb); clear HB; have HB := n0_; clear n0_; (try clear hb); (try clear hb2); (try clear hk); (try clear hi))); try go_wp2_with (first | (go_at_call 8; (with_reducible refine (casementlaw18_awake.calls kj3  t175 _ A7.out).mono ?_); rintro e w8 ⟨rfl, hb⟩; have n0_ := Aside0.mk (below_step (by repeat (first | (with_reducible first | exact HB.out | apply below_alloc | apply pw_below_drewN | apply below_drew1) | exact HB.out)) hb); clear HB; have HB := n0_; clear n0_; (try clear hb); (try clear hb2); (try clear hk); (try clear hi))))
        go_ret
        exact ⟨by first | rfl | (simp [errW_none, errW_some] <;> rfl) | (simp [*, errW_none, errW_some] <;> rfl), by repeat (first | (with_reducible first | exact HB.out | apply below_alloc | apply pw_below_drewN | apply below_drew1) | exact HB.out)⟩
      · replace c6 := Bool.eq_false_iff.mpr c6
        subst c6
        have H1 : ((lex_Tokens.f kj3 a0).bind fun bt176 => ((lex_Tokens.f kj3 a1).bind fun bt181 => (if bt176.2.2 = 0 then (casementlaw18_LexBlanks.j1 kj3 a0 a1 a2 bt176.1 bt181.1 (bt181.2.2 != 0)) else (casementlaw18_LexBlanks.j1 kj3 a0 a1 a2 bt176.1 bt181.1 true)))) = some r := by rw [if_neg (show ¬ (false = true) by decide)] at H; exact H
        clear H
        have H := H1
        clear H1
        replace H := Option.bind_eq_some_iff.mp H
        obtain ⟨⟨t176, t177, t178⟩, A90, H⟩ := H
        replace H : ((lex_Tokens.f kj3 a1).bind fun bt181 => (if t178 = 0 then (casementlaw18_LexBlanks.j1 kj3 a0 a1 a2 t176 bt181.1 (bt181.2.2 != 0)) else (casementlaw18_LexBlanks.j1 kj3 a0 a1 a2 t176 bt181.1 true))) = some r := H
        have A9 := Aside0.mk A90
        clear A90
        replace H := Option.bind_eq_some_iff.mp H
        obtain ⟨⟨t181, t182, t183⟩, A100, H⟩ := H
        replace H : (if t178 = 0 then (casementlaw18_LexBlanks.j1 kj3 a0 a1 a2 t176 t181 (t183 != 0)) else (casementlaw18_LexBlanks.j1 kj3 a0 a1 a2 t176 t181 true)) = some r := H
        have A10 := Aside0.mk A100
        clear A100
        have HC11 := Aside0.mk H
        clear H
        go_upto_region 5 with (first | (go_at_call 9; (with_reducible refine (lex_Tokens.calls kj3 a0 t176 t177 t178 _ A9.out).mono ?_); rintro e w12 ⟨v179, rfl, ho0, hb⟩; have n0_ := Aside0.mk (Kd.R_lower ho0 (below_size (by repeat (first | (with_reducible first | exact HB.out | apply below_alloc | apply pw_below_drewN | apply below_drew1) | exact HB.out)))); have n1_ := Aside0.mk (below_step (by repeat (first | (with_reducible first | exact HB.out | apply below_alloc | apply pw_below_drewN | apply below_drew1) | exact HB.out)) hb); clear HB; have HO180 := n0_; have HB := n1_; clear n0_ n1_; (try clear hb); (try clear hb2); (try clear hk); (try clear hi); (try clear ho0)) | (go_at_call 9; (with_reducible refine (lex_Tokens.calls kj3 a1 t181 t182 t183 _ A10.out).mono ?_); rintro e w13 ⟨v184, rfl, ho0, hb⟩; have n0_ := Aside0.mk (Kd.R_elder' (by (with_reducible repeat (first | apply Kd.R_alloc | apply Kd.R_drewN | apply Kd.R_drew)); exact HO180.out) (Kd.R_base ho0) hb); have n1_ := Aside0.mk (Kd.R_lower (Kd.R_new' ho0 (Kd.R_lt (by (with_reducible repeat (first | apply Kd.R_alloc | apply Kd.R_drewN | apply Kd.R_drew)); exact HO180.out))) (below_size (by repeat (first | (with_reducible first | exact HB.out | apply below_alloc | apply pw_below_drewN | apply below_drew1) | exact HB.out)))); have n2_ := Aside0.mk (below_step (by repeat (first | (with_reducible first | exact HB.out | apply below_alloc | apply pw_below_drewN | apply below_drew1) | exact HB.out)) hb); clear HO180; clear HB; have HO180 := n0_; have HO185 := n1_; have HB := n2_; clear n0_ n1_ n2_; (try clear hb); (try clear hb2); (try clear hk); (try clear hi); (try clear ho0)))
        repeat (go_quiet (first | (go_at_call 9; (with_reducible refine (lex_Tokens.calls kj3 a0 t176 t177 t178 _ A9.out).mono ?_); rintro e w12 ⟨v179, rfl, ho0, hb⟩; have n0_ := Aside0.mk (Kd.R_lower ho0 (below_size (by repeat (first | (with_reducible first | exact HB.out | apply below_alloc | apply pw_below_drewN | apply below_drew1) | exact HB.out)))); have n1_ := Aside0.mk (below_step (by repeat (first | (with_reducible first | exact HB.out | apply below_alloc | apply pw_below_drewN | apply below_drew1) | exact HB.out)) hb); clear HB; have HO180 := n0_; have HB := n1_; clear n0_ n1_; (try clear hb); (try clear hb2); (try clear hk); (try clear hi); (try clear ho0)) | (go_at_call 9; (with_reducible refine (lex_Tokens.calls kj3 a1 t181 t182 t183 _ A10.out).mono ?_); rintro e w13 ⟨v184, rfl, ho0, hb⟩; have n0_ := Aside0.mk (Kd.R_elder' (by (with_reducible repeat (first | apply Kd.R_alloc | apply Kd.R_drewN | apply Kd.R_drew)); exact HO180.out) (Kd.R_base ho0) hb); have n1_ := Aside0.mk (Kd.R_lower (Kd.R_new' ho0 (Kd.R_lt (by (with_reducible repeat (first | apply Kd.R_alloc | apply Kd.R_drewN | apply Kd.R_drew)); exact HO180.out))) (below_size (by repeat (first | (with_reducible first | exact HB.out | apply below_alloc | apply pw_below_drewN | apply below_drew1) | exact HB.out)))); have n2_ := Aside0.mk (below_step (by repeat (first | (with_reducible first | exact HB.out | apply below_alloc | apply pw_below_drewN | apply below_drew1) | exact HB.out)) hb); clear HO180; clear HB; have HO180 := n0_; have HO185 := n1_; have HB := n2_; clear n0_ n1_ n2_; (try clear hb); (try clear hb2); (try clear hk); (try clear hi); (try clear ho0))); go_upto_region 5 with (first | (go_at_call 9; (with_reducible refine (lex_Tokens.calls kj3 a0 t176 t177 t178 _ A9.out).mono ?_); rintro e w12 ⟨v179, rfl, ho0, hb⟩; have n0_ := Aside0.mk (Kd.R_lower ho0 (below_size (by repeat (first | (with_reducible first | exact HB.out | apply below_alloc | apply pw_below_drewN | apply below_drew1) | exact HB.out)))); have n1_ := Aside0.mk (below_step (by repeat (first | (with_reducible first | exact HB.out | apply below_alloc | apply pw_below_drewN | apply below_drew1) | exact HB.out)) hb); clear HB; have HO180 := n0_; have HB := n1_; clear n0_ n1_; (try clear hb); (try clear hb2); (try clear hk); (try clear hi); (try clear ho0)) | (go_at_call 9; (with_reducible refine (lex_Tokens.calls kj3 a1 t181 t182 t183 _ A10.out).mono ?_); rintro e w13 ⟨v184, rfl, ho0, hb⟩; have n0_ := Aside0.mk (Kd.R_elder' (by (with_reducible repeat (first | apply Kd.R_alloc | apply Kd.R_drewN | apply Kd.R_drew)); exact HO180.out) (Kd.R_base ho0) hb); have n1_ := Aside0.mk (Kd.R_lower (Kd.R_new' ho0 (Kd.R_lt (by (with_reducible repeat (first | apply Kd.R_alloc | apply Kd.R_drewN | apply Kd.R_drew)); exact HO180.out))) (below_size (by repeat (first | (with_reducible first | exact HB.out | apply below_alloc | apply pw_below_drewN | apply below_drew1) | exact HB.out)))); have n2_ := Aside0.mk (below_step (by repeat (first | (with_reducible first | exact HB.out | apply below_alloc | apply pw_below_drewN | apply below_drew1) | exact HB.out)) hb); clear HO180; clear HB; have HO180 := n0_; have HO185 := n1_; have HB := n2_; clear n0_ n1_ n2_; (try clear hb); (try clear hb2); (try clear hk); (try clear hi); (try clear ho0))))
        (try simp only [Act.put, List.setIfInBounds_toArray, List.set_cons_zero, List.set_cons_succ])
        go_cut [48] (fun v48 wc => ∃ (kq : Nat) (x48_10 : Bool), v48 = .bool x48_10 ∧ Aside0 (casementlaw18_LexBlanks.j1 kq a0 a1 a2 t176 t181 x48_10 = some r) ∧ Aside0 (kq ≤ kj3) ∧ Aside0 (Kd.R k33 33 wc w.heap.size (fun k_ => some k_ ≠ (v184 : Value).ownBlock) v179 t176) ∧ Aside0 (Kd.R k33 33 wc w.heap.size (fun k_ => some k_ ≠ (v179 : Value).ownBlock) v184 t181) ∧ Aside0 (Below w.heap.size w wc))
        case first =>
          have H := HC11.out
          clear HC11
          by_cases c14 : t178 = 0
          · rw [if_pos c14] at H
            have c14b0 : (t178 == 0) = true := beq_iff_eq.mpr c14
            have c14b1 : (t178 != 0) = false := bne_eq_false_iff_eq.mpr c14
            clear c14
            (first | rw [c14b0] | (simp only [i64_w, i32_w]; rw [c14b0]) | skip)
            have H' := Aside0.mk H
            clear H
            go_wp2
            repeat (go_quiet (fail); try go_wp2)
            go_meet
            case rel => exact ⟨_, ((t183 != 0)), (by first | rfl | (simp; done) | (simp [*]; done) | (congr 2; generalize ByteArray.toList _ = l_; cases l_ <;> rfl)), H', ⟨by have := HJ3.out; first | omega | exact Nat.le_refl _⟩, ⟨by (with_reducible repeat (first | apply Kd.R_alloc | apply Kd.R_drewN | apply Kd.R_drew)); exact Kd.R_mono HO180.out (fun _ hk => hk.2)⟩, ⟨by (with_reducible repeat (first | apply Kd.R_alloc | apply Kd.R_drewN | apply Kd.R_drew)); exact Kd.R_mono HO185.out (fun _ hk => hk.2)⟩, ⟨by repeat (first | (with_reducible first | exact HB.out | apply below_alloc | apply pw_below_drewN | apply below_drew1) | exact HB.out)⟩⟩
          · rw [if_neg c14] at H
            have c14b0 : (t178 == 0) = false := beq_eq_false_iff_ne.mpr c14
            have c14b1 : (t178 != 0) = true := bne_iff_ne.mpr c14
            (first | rw [c14b0] | (simp only [i64_w, i32_w]; rw [c14b0]) | skip)
            have H' := Aside0.mk H
            clear H
            go_wp2
            repeat (go_quiet (fail); try go_wp2)
            go_meet
            case rel => exact ⟨_, (true), (by first | rfl | (simp; done) | (simp [*]; done) | (congr 2; generalize ByteArray.toList _ = l_; cases l_ <;> rfl)), H', ⟨by have := HJ3.out; first | omega | exact Nat.le_refl _⟩, ⟨by (with_reducible repeat (first | apply Kd.R_alloc | apply Kd.R_drewN | apply Kd.R_drew)); exact Kd.R_mono HO180.out (fun _ hk => hk.2)⟩, ⟨by (with_reducible repeat (first | apply Kd.R_alloc | apply Kd.R_drewN | apply Kd.R_drew)); exact Kd.R_mono HO185.out (fun _ hk => hk.2)⟩, ⟨by repeat (first | (with_reducible first | exact HB.out | apply below_alloc | apply pw_below_drewN | apply below_drew1) | exact HB.out)⟩⟩
        case rest =>
          clear HC11
          try clear c1
          try clear p2
          try clear c4
          try clear c5
          try clear c5b0
          try clear c5b1
          try clear c6
          try clear c14
          try clear c14b0
          try clear c14b1
          try clear p2
          obtain ⟨kq, x48_10, rfl, HA, HJ10, HO_7, HO_10, HB⟩ := hcut
          cases kq with
          | zero => exact absurd HA.out (by simp [casementlaw18_LexBlanks.j1])
          | succ kj10 =>
            have H := HA.out
            clear HA
            simp only [casementlaw18_LexBlanks.j1] at H
            by_cases c15 : x48_10 = true
            · subst c15
              have H1 : ((casementlaw18_awake.f kj10).bind fun t186 => (some t186)) = some r := by rw [if_pos rfl] at H; exact H
              clear H
              have H := H1
              clear H1
              replace H := Option.bind_eq_some_iff.mp H
              obtain ⟨t186, A160, H⟩ := H
              replace H : (some t186) = some r := H
              have A16 := Aside0.mk A160
              clear A160
              obtain rfl := Option.some.inj H
              go_wp2_with (first | (go_at_call 8; (with_reducible refine (casementlaw18_awake.calls kj10  t186 _ A16.out).mono ?_); rintro e w17 ⟨rfl, hb⟩; have n0_ := Aside0.mk (Kd.R_below (by (with_reducible repeat (first | apply Kd.R_alloc | apply Kd.R_drewN | apply Kd.R_drew)); exact HO_7.out) hb); have n1_ := Aside0.mk (Kd.R_below (by (with_reducible repeat (first | apply Kd.R_alloc | apply Kd.R_drewN | apply Kd.R_drew)); exact HO_10.out) hb); have n2_ := Aside0.mk (below_step (by repeat (first | (with_reducible first | exact HB.out | apply below_alloc | apply pw_below_drewN | apply below_drew1) | exact HB.out)) hb); clear HO_7; clear HO_10; clear HB; have HO_7 := n0_; have HO_10 := n1_; have HB := n2_; clear n0_ n1_ n2_; (try clear hb); (try clear hb2); (try clear hk); (try clear hi)))
              repeat (go_quiet (first | (go_at_call 8; (with_reducible refine (casementlaw18_awake.calls kj10  t186 _ A16.out).mono ?_); rintro e w17 ⟨rfl, hb⟩; have n0_ := Aside0.mk (Kd.R_below (by (with_reducible repeat (first | apply Kd.R_alloc | apply Kd.R_drewN | apply Kd.R_drew)); exact HO_7.out) hb); have n1_ := Aside0.mk (Kd.R_below (by (with_reducible repeat (first | apply Kd.R_alloc | apply Kd.R_drewN | apply Kd.R_drew)); exact HO_10.out) hb); have n2_ := Aside0.mk (below_step (by repeat (first | (with_reducible first | exact HB.out | apply below_alloc | apply pw_below_drewN | apply below_drew1) | exact HB.out)) hb); clear HO_7; clear HO_10; clear HB; have HO_7 := n0_; have HO_10 := n1_; have HB := n2_; clear n0_ n1_ n2_; (try clear hb); (try clear hb2); (try clear hk); (try clear hi))); try go_wp2_with (first | (go_at_call 8; (with_reducible refine (casementlaw18_awake.calls kj10  t186 _ A16.out).mono ?_); rintro e w17 ⟨rfl, hb⟩; have n0_ := Aside0.mk (Kd.R_below (by (with_reducible repeat (first | apply Kd.R_alloc | apply Kd.R_drewN | apply Kd.R_drew)); exact HO_7.out) hb); have n1_ := Aside0.mk (Kd.R_below (by (with_reducible repeat (first | apply Kd.R_alloc | apply Kd.R_drewN | apply Kd.R_drew)); exact HO_10.out) hb); have n2_ := Aside0.mk (below_step (by repeat (first | (with_reducible first | exact HB.out | apply below_alloc | apply pw_below_drewN | apply below_drew1) | exact HB.out)) hb); clear HO_7; clear HO_10; clear HB; have HO_7 := n0_; have HO_10 := n1_; have HB := n2_; clear n0_ n1_ n2_; (try clear hb); (try clear hb2); (try clear hk); (try clear hi))))
              go_ret
              exact ⟨by first | rfl | (simp [errW_none, errW_some] <;> rfl) | (simp [*, errW_none, errW_some] <;> rfl), by repeat (first | (with_reducible first | exact HB.out | apply below_alloc | apply pw_below_drewN | apply below_drew1) | exact HB.out)⟩
            · replace c15 := Bool.eq_false_iff.mpr c15
              subst c15
              have H1 : (casementlaw18_LexBlanks.l0 kj10 a0 a1 a2 t176 t181 (⟨#[32]⟩ : ByteArray) 0) = some r := by rw [if_neg (show ¬ (false = true) by decide)] at H; exact H
              clear H
              have H := H1
              clear H1
              have H' := Aside0.mk H
              clear H
              go_wp2
              repeat (go_quiet (fail); try go_wp2)
              go_loopg [13, 14] kj10 (fun kq v13 v14 w' => ∃ (x13_3 : ByteArray) (x14_3 : Int), v13 = .string x13_3 ∧ v14 = .int .i64 x14_3 ∧ Aside0 (casementlaw18_LexBlanks.l0 kq a0 a1 a2 t176 t181 x13_3 x14_3 = some r) ∧ Aside0 (kq ≤ kj10) ∧ Aside0 (Kd.R k33 33 w' w.heap.size (fun k_ => some k_ ≠ (v184 : Value).ownBlock) v179 t176) ∧ Aside0 (Kd.R k33 33 w' w.heap.size (fun k_ => some k_ ≠ (v179 : Value).ownBlock) v184 t181) ∧ Aside0 (Below w.heap.size w w'))
              case atStart => exact ⟨((⟨#[32]⟩ : ByteArray)), (0), (by first | rfl | (simp; done) | (simp [*]; done) | (congr 2; generalize ByteArray.toList _ = l_; cases l_ <;> rfl)), (by first | rfl | (simp; done) | (simp [*]; done) | (congr 2; generalize ByteArray.toList _ = l_; cases l_ <;> rfl)), H', ⟨Nat.le_refl _⟩, ⟨by (with_reducible repeat (first | apply Kd.R_alloc | apply Kd.R_drewN | apply Kd.R_drew)); exact HO_7.out⟩, ⟨by (with_reducible repeat (first | apply Kd.R_alloc | apply Kd.R_drewN | apply Kd.R_drew)); exact HO_10.out⟩, ⟨by repeat (first | (with_reducible first | exact HB.out | apply below_alloc | apply pw_below_drewN | apply below_drew1) | exact HB.out)⟩⟩
              case round =>
                clear H'
                try clear c1
                try clear p2
                try clear c4
                try clear c5
                try clear c5b0
                try clear c5b1
                try clear c6
                try clear c14
                try clear c14b0
                try clear c14b1
                try clear c15
                try clear p2
                obtain ⟨x13_3, x14_3, rfl, rfl, HA, HK3, HO_7, HO_10, HB⟩ := hrel
                cases gk with
                | zero => exact absurd HA.out (by simp [casementlaw18_LexBlanks.l0])
                | succ k3 =>
                  have H := HA.out
                  clear HA
                  simp only [casementlaw18_LexBlanks.l0] at H
                  by_cases c18 : x14_3 < (wrap64 (Int.tmod a2 5))
                  · rw [if_pos c18] at H
                    have c18b0 : decide (x14_3 < (wrap64 (Int.tmod a2 5))) = true := decide_eq_true c18
                    clear c18
                    by_cases c19 : x13_3.size + 1 ≤ 9223372036854775807
                    · rw [if_pos c19] at H
                      have c19b0 := eq_true c19
                      have c19b1 : decide (x13_3.size + 1 ≤ 9223372036854775807) = true := decide_eq_true c19
                      try have c19b2 : (9223372036854775807 < x13_3.size + 1) = False := eq_false (Nat.not_lt.2 c19)
                      have H' := Aside0.mk H
                      clear H
                      go_wp2
                      repeat (go_quiet (fail); try go_wp2)
                      go_roundg k3
                      case measure => have := HJ3.out; have := HJ10.out; have := HK3.out; omega
                      case rel => exact ⟨(x13_3 ++ (⟨#[9]⟩ : ByteArray)), (wrap64 (x14_3 + 1)), (by first | rfl | (simp; done) | (simp [*]; done) | (congr 2; generalize ByteArray.toList _ = l_; cases l_ <;> rfl)), (by first | rfl | (simp; done) | (simp [*]; done) | (congr 2; generalize ByteArray.toList _ = l_; cases l_ <;> rfl)), H', ⟨by have := HJ3.out; have := HJ10.out; have := HK3.out; omega⟩, ⟨by (with_reducible repeat (first | apply Kd.R_alloc | apply Kd.R_drewN | apply Kd.R_drew)); exact HO_7.out⟩, ⟨by (with_reducible repeat (first | apply Kd.R_alloc | apply Kd.R_drewN | apply Kd.R_drew)); exact HO_10.out⟩, ⟨by repeat (first | (with_reducible first | exact HB.out | apply below_alloc | apply pw_below_drewN | apply below_drew1) | exact HB.out)⟩⟩
                    · rw [if_neg c19] at H
                      exact absurd H (by simp)
                  · rw [if_neg c18] at H
                    have c18b0 : decide (x14_3 < (wrap64 (Int.tmod a2 5))) = false := decide_eq_false c18
                    clear c18
                    by_cases c20 : x13_3.size + a0.size ≤ 9223372036854775807
                    · rw [if_pos c20] at H
                      have c20b0 := eq_true c20
                      have c20b1 : decide (x13_3.size + a0.size ≤ 9223372036854775807) = true := decide_eq_true c20
                      try have c20b2 : (9223372036854775807 < x13_3.size + a0.size) = False := eq_false (Nat.not_lt.2 c20)
                      by_cases c21 : (x13_3 ++ a0).size + x13_3.size ≤ 9223372036854775807
                      · rw [if_pos c21] at H
                        have c21b0 := eq_true c21
                        have c21b1 : decide ((x13_3 ++ a0).size + x13_3.size ≤ 9223372036854775807) = true := decide_eq_true c21
                        try have c21b2 : (9223372036854775807 < (x13_3 ++ a0).size + x13_3.size) = False := eq_false (Nat.not_lt.2 c21)
                        by_cases c22 : ((x13_3 ++ a0) ++ x13_3).size + a1.size ≤ 9223372036854775807
                        · rw [if_pos c22] at H
                          have c22b0 := eq_true c22
                          have c22b1 : decide (((x13_3 ++ a0) ++ x13_3).size + a1.size ≤ 9223372036854775807) = true := decide_eq_true c22
                          try have c22b2 : (9223372036854775807 < ((x13_3 ++ a0) ++ x13_3).size + a1.size) = False := eq_false (Nat.not_lt.2 c22)
                          by_cases c23 : (((x13_3 ++ a0) ++ x13_3) ++ a1).size + x13_3.size ≤ 9223372036854775807
                          · rw [if_pos c23] at H
                            have c23b0 := eq_true c23
                            have c23b1 : decide ((((x13_3 ++ a0) ++ x13_3) ++ a1).size + x13_3.size ≤ 9223372036854775807) = true := decide_eq_true c23
                            try have c23b2 : (9223372036854775807 < (((x13_3 ++ a0) ++ x13_3) ++ a1).size + x13_3.size) = False := eq_false (Nat.not_lt.2 c23)
                            replace H := Option.bind_eq_some_iff.mp H
                            obtain ⟨⟨t187, t188, t189⟩, A240, H⟩ := H
                            replace H : (if t189 = 0 then (casementlaw18_LexBlanks.j3 k3 a0 t176 t181 x13_3 t187 ((t187.length : Int) != (wrap64 ((wrap64 ((t176.length : Int) + (t181.length : Int))) - 1)))) else (casementlaw18_LexBlanks.j3 k3 a0 t176 t181 x13_3 t187 true)) = some r := H
                            have A24 := Aside0.mk A240
                            clear A240
                            have HC25 := Aside0.mk H
                            clear H
                            go_upto_region 13 with (first | (go_at_call 9; (with_reducible refine (lex_Tokens.calls k3 ((((x13_3 ++ a0) ++ x13_3) ++ a1) ++ x13_3) t187 t188 t189 _ A24.out).mono ?_); rintro e w26 ⟨v190, rfl, ho0, hb⟩; have n0_ := Aside0.mk (Kd.R_elder' (by (with_reducible repeat (first | apply Kd.R_alloc | apply Kd.R_drewN | apply Kd.R_drew)); exact HO_7.out) (Kd.R_base ho0) hb); have n1_ := Aside0.mk (Kd.R_elder' (by (with_reducible repeat (first | apply Kd.R_alloc | apply Kd.R_drewN | apply Kd.R_drew)); exact HO_10.out) (Kd.R_base ho0) hb); have n2_ := Aside0.mk (Kd.R_lower (Kd.R_new' (Kd.R_new' ho0 (Kd.R_lt (by (with_reducible repeat (first | apply Kd.R_alloc | apply Kd.R_drewN | apply Kd.R_drew)); exact HO_7.out))) (Kd.R_lt (by (with_reducible repeat (first | apply Kd.R_alloc | apply Kd.R_drewN | apply Kd.R_drew)); exact HO_10.out))) (below_size (by repeat (first | (with_reducible first | exact HB.out | apply below_alloc | apply pw_below_drewN | apply below_drew1) | exact HB.out)))); have n3_ := Aside0.mk (below_step (by repeat (first | (with_reducible first | exact HB.out | apply below_alloc | apply pw_below_drewN | apply below_drew1) | exact HB.out)) hb); clear HO_7; clear HO_10; clear HB; have HO_7 := n0_; have HO_10 := n1_; have HO191 := n2_; have HB := n3_; clear n0_ n1_ n2_ n3_; (try clear hb); (try clear hb2); (try clear hk); (try clear hi); (try clear ho0)))
                            repeat (go_quiet (first | (go_at_call 9; (with_reducible refine (lex_Tokens.calls k3 ((((x13_3 ++ a0) ++ x13_3) ++ a1) ++ x13_3) t187 t188 t189 _ A24.out).mono ?_); rintro e w26 ⟨v190, rfl, ho0, hb⟩; have n0_ := Aside0.mk (Kd.R_elder' (by (with_reducible repeat (first | apply Kd.R_alloc | apply Kd.R_drewN | apply Kd.R_drew)); exact HO_7.out) (Kd.R_base ho0) hb); have n1_ := Aside0.mk (Kd.R_elder' (by (with_reducible repeat (first | apply Kd.R_alloc | apply Kd.R_drewN | apply Kd.R_drew)); exact HO_10.out) (Kd.R_base ho0) hb); have n2_ := Aside0.mk (Kd.R_lower (Kd.R_new' (Kd.R_new' ho0 (Kd.R_lt (by (with_reducible repeat (first | apply Kd.R_alloc | apply Kd.R_drewN | apply Kd.R_drew)); exact HO_7.out))) (Kd.R_lt (by (with_reducible repeat (first | apply Kd.R_alloc | apply Kd.R_drewN | apply Kd.R_drew)); exact HO_10.out))) (below_size (by repeat (first | (with_reducible first | exact HB.out | apply below_alloc | apply pw_below_drewN | apply below_drew1) | exact HB.out)))); have n3_ := Aside0.mk (below_step (by repeat (first | (with_reducible first | exact HB.out | apply below_alloc | apply pw_below_drewN | apply below_drew1) | exact HB.out)) hb); clear HO_7; clear HO_10; clear HB; have HO_7 := n0_; have HO_10 := n1_; have HO191 := n2_; have HB := n3_; clear n0_ n1_ n2_ n3_; (try clear hb); (try clear hb2); (try clear hk); (try clear hi); (try clear ho0))); go_upto_region 13 with (first | (go_at_call 9; (with_reducible refine (lex_Tokens.calls k3 ((((x13_3 ++ a0) ++ x13_3) ++ a1) ++ x13_3) t187 t188 t189 _ A24.out).mono ?_); rintro e w26 ⟨v190, rfl, ho0, hb⟩; have n0_ := Aside0.mk (Kd.R_elder' (by (with_reducible repeat (first | apply Kd.R_alloc | apply Kd.R_drewN | apply Kd.R_drew)); exact HO_7.out) (Kd.R_base ho0) hb); have n1_ := Aside0.mk (Kd.R_elder' (by (with_reducible repeat (first | apply Kd.R_alloc | apply Kd.R_drewN | apply Kd.R_drew)); exact HO_10.out) (Kd.R_base ho0) hb); have n2_ := Aside0.mk (Kd.R_lower (Kd.R_new' (Kd.R_new' ho0 (Kd.R_lt (by (with_reducible repeat (first | apply Kd.R_alloc | apply Kd.R_drewN | apply Kd.R_drew)); exact HO_7.out))) (Kd.R_lt (by (with_reducible repeat (first | apply Kd.R_alloc | apply Kd.R_drewN | apply Kd.R_drew)); exact HO_10.out))) (below_size (by repeat (first | (with_reducible first | exact HB.out | apply below_alloc | apply pw_below_drewN | apply below_drew1) | exact HB.out)))); have n3_ := Aside0.mk (below_step (by repeat (first | (with_reducible first | exact HB.out | apply below_alloc | apply pw_below_drewN | apply below_drew1) | exact HB.out)) hb); clear HO_7; clear HO_10; clear HB; have HO_7 := n0_; have HO_10 := n1_; have HO191 := n2_; have HB := n3_; clear n0_ n1_ n2_ n3_; (try clear hb); (try clear hb2); (try clear hk); (try clear hi); (try clear ho0))))
                            (try simp only [Act.put, List.setIfInBounds_toArray, List.set_cons_zero, List.set_cons_succ])
                            go_cut [85] (fun v85 wc => ∃ (kq : Nat) (x85_24 : Bool), v85 = .bool x85_24 ∧ Aside0 (casementlaw18_LexBlanks.j3 kq a0 t176 t181 x13_3 t187 x85_24 = some r) ∧ Aside0 (kq ≤ k3) ∧ Aside0 (Kd.R k33 33 wc w.heap.size (fun k_ => some k_ ≠ (v184 : Value).ownBlock ∧ some k_ ≠ (v190 : Value).ownBlock) v179 t176) ∧ Aside0 (Kd.R k33 33 wc w.heap.size (fun k_ => some k_ ≠ (v179 : Value).ownBlock ∧ some k_ ≠ (v190 : Value).ownBlock) v184 t181) ∧ Aside0 (Kd.R k33 33 wc w.heap.size (fun k_ => some k_ ≠ (v179 : Value).ownBlock ∧ some k_ ≠ (v184 : Value).ownBlock) v190 t187) ∧ Aside0 (Below w.heap.size w wc))
                            case first =>
                              have H := HC25.out
                              clear HC25
                              by_cases c27 : t189 = 0
                              · rw [if_pos c27] at H
                                have c27b0 : (t189 == 0) = true := beq_iff_eq.mpr c27
                                have c27b1 : (t189 != 0) = false := bne_eq_false_iff_eq.mpr c27
                                clear c27
                                (first | rw [c27b0] | (simp only [i64_w, i32_w]; rw [c27b0]) | skip)
                                have H' := Aside0.mk H
                                clear H
                                obtain ⟨Ao28, co28, eo28⟩ := Kd.R_slice HO191.out
                                subst eo28
                                obtain ⟨Ao29, co29, eo29⟩ := Kd.R_slice HO_7.out
                                subst eo29
                                obtain ⟨Ao30, co30, eo30⟩ := Kd.R_slice HO_10.out
                                subst eo30
                                go_wp2
                                repeat (go_quiet (fail); try go_wp2)
                                go_meet
                                case rel => exact ⟨_, (((t187.length : Int) != (wrap64 ((wrap64 ((t176.length : Int) + (t181.length : Int))) - 1)))), (by first | rfl | (simp; done) | (simp [*]; done) | (congr 2; generalize ByteArray.toList _ = l_; cases l_ <;> rfl)), H', ⟨by have := HJ3.out; have := HJ10.out; have := HK3.out; first | omega | exact Nat.le_refl _⟩, ⟨by (with_reducible repeat (first | apply Kd.R_alloc | apply Kd.R_drewN | apply Kd.R_drew)); exact HO_7.out⟩, ⟨by (with_reducible repeat (first | apply Kd.R_alloc | apply Kd.R_drewN | apply Kd.R_drew)); exact HO_10.out⟩, ⟨by (with_reducible repeat (first | apply Kd.R_alloc | apply Kd.R_drewN | apply Kd.R_drew)); exact Kd.R_mono HO191.out (fun _ hk => ⟨hk.1.2, hk.2⟩)⟩, ⟨by repeat (first | (with_reducible first | exact HB.out | apply below_alloc | apply pw_below_drewN | apply below_drew1) | exact HB.out)⟩⟩
                              · rw [if_neg c27] at H
                                have c27b0 : (t189 == 0) = false := beq_eq_false_iff_ne.mpr c27
                                have c27b1 : (t189 != 0) = true := bne_iff_ne.mpr c27
                                (first | rw [c27b0] | (simp only [i64_w, i32_w]; rw [c27b0]) | skip)
                                have H' := Aside0.mk H
                                clear H
                                go_wp2
                                repeat (go_quiet (fail); try go_wp2)
                                go_meet
                                case rel => exact ⟨_, (true), (by first | rfl | (simp; done) | (simp [*]; done) | (congr 2; generalize ByteArray.toList _ = l_; cases l_ <;> rfl)), H', ⟨by have := HJ3.out; have := HJ10.out; have := HK3.out; first | omega | exact Nat.le_refl _⟩, ⟨by (with_reducible repeat (first | apply Kd.R_alloc | apply Kd.R_drewN | apply Kd.R_drew)); exact HO_7.out⟩, ⟨by (with_reducible repeat (first | apply Kd.R_alloc | apply Kd.R_drewN | apply Kd.R_drew)); exact HO_10.out⟩, ⟨by (with_reducible repeat (first | apply Kd.R_alloc | apply Kd.R_drewN | apply Kd.R_drew)); exact Kd.R_mono HO191.out (fun _ hk => ⟨hk.1.2, hk.2⟩)⟩, ⟨by repeat (first | (with_reducible first | exact HB.out | apply below_alloc | apply pw_below_drewN | apply below_drew1) | exact HB.out)⟩⟩
                            case rest =>
                              clear HC25
                              try clear c1
                              try clear c2
                              try clear p2
                              try clear c4
                              try clear c5
                              try clear c5b0
                              try clear c5b1
                              try clear c6
                              try clear p6
                              try clear c14
                              try clear c14b0
                              try clear c14b1
                              try clear c15
                              try clear c18
                              try clear c18b0
                              try clear c19
                              try clear c19b0
                              try clear c19b1
                              try clear c19b2
                              try clear c20
                              try clear c20b0
                              try clear c20b1
                              try clear c20b2
                              try clear c21
                              try clear c21b0
                              try clear c21b1
                              try clear c21b2
                              try clear c22
                              try clear c22b0
                              try clear c22b1
                              try clear c22b2
                              try clear c23
                              try clear c23b0
                              try clear c23b1
                              try clear c23b2
                              try clear c27
                              try clear c27b0
                              try clear c27b1
                              try clear p2
                              obtain ⟨kq, x85_24, rfl, HA, HJ24, HO_7, HO_10, HO_15, HB⟩ := hcut
                              cases kq with
                              | zero => exact absurd HA.out (by simp [casementlaw18_LexBlanks.j3])
                              | succ kj24 =>
                                have H := HA.out
                                clear HA
                                simp only [casementlaw18_LexBlanks.j3] at H
                                by_cases c31 : x85_24 = true
                                · subst c31
                                  have H1 : (some false) = some r := by rw [if_pos rfl] at H; exact H
                                  clear H
                                  have H := H1
                                  clear H1
                                  obtain rfl := Option.some.inj H
                                  go_wp2
                                  repeat (go_quiet (fail); try go_wp2)
                                  go_ret
                                  exact ⟨by first | rfl | (simp [errW_none, errW_some] <;> rfl) | (simp [*, errW_none, errW_some] <;> rfl), by repeat (first | (with_reducible first | exact HB.out | apply below_alloc | apply pw_below_drewN | apply below_drew1) | exact HB.out)⟩
                                · replace c31 := Bool.eq_false_iff.mpr c31
                                  subst c31
                                  have H1 : (casementlaw18_LexBlanks.l1 kj24 a0 t176 t181 x13_3 t187 0) = some r := by rw [if_neg (show ¬ (false = true) by decide)] at H; exact H
                                  clear H
                                  have H := H1
                                  clear H1
                                  have H' := Aside0.mk H
                                  clear H
                                  go_wp2
                                  repeat (go_quiet (fail); try go_wp2)
                                  go_loopg [18] kj24 (fun kq v18 w' => ∃ (x18_5 : Int), v18 = .int .i64 x18_5 ∧ Aside0 (casementlaw18_LexBlanks.l1 kq a0 t176 t181 x13_3 t187 x18_5 = some r) ∧ Aside0 (kq ≤ kj24) ∧ Aside0 (Kd.R k33 33 w' w.heap.size (fun k_ => some k_ ≠ (v184 : Value).ownBlock ∧ some k_ ≠ (v190 : Value).ownBlock) v179 t176) ∧ Aside0 (Kd.R k33 33 w' w.heap.size (fun k_ => some k_ ≠ (v179 : Value).ownBlock ∧ some k_ ≠ (v190 : Value).ownBlock) v184 t181) ∧ Aside0 (Kd.R k33 33 w' w.heap.size (fun k_ => some k_ ≠ (v179 : Value).ownBlock ∧ some k_ ≠ (v184 : Value).ownBlock) v190 t187) ∧ Aside0 (Below w.heap.size w w'))
                                  case atStart => exact ⟨(0), (by first | rfl | (simp; done) | (simp [*]; done) | (congr 2; generalize ByteArray.toList _ = l_; cases l_ <;> rfl)), H', ⟨Nat.le_refl _⟩, ⟨by (with_reducible repeat (first | apply Kd.R_alloc | apply Kd.R_drewN | apply Kd.R_drew)); exact HO_7.out⟩, ⟨by (with_reducible repeat (first | apply Kd.R_alloc | apply Kd.R_drewN | apply Kd.R_drew)); exact HO_10.out⟩, ⟨by (with_reducible repeat (first | apply Kd.R_alloc | apply Kd.R_drewN | apply Kd.R_drew)); exact HO_15.out⟩, ⟨by repeat (first | (with_reducible first | exact HB.out | apply below_alloc | apply pw_below_drewN | apply below_drew1) | exact HB.out)⟩⟩
                                  case round =>
                                    clear H'
                                    try clear c1
                                    try clear c2
                                    try clear p2
                                    try clear c3
                                    try clear c4
                                    try clear c5
                                    try clear c5b0
                                    try clear c5b1
                                    try clear c6
                                    try clear p6
                                    try clear c14
                                    try clear c14b0
                                    try clear c14b1
                                    try clear c15
                                    try clear c18
                                    try clear c18b0
                                    try clear c19
                                    try clear c19b0
                                    try clear c19b1
                                    try clear c19b2
                                    try clear c20
                                    try clear c20b0
                                    try clear c20b1
                                    try clear c20b2
                                    try clear c21
                                    try clear c21b0
                                    try clear c21b1
                                    try clear c21b2
                                    try clear c22
                                    try clear c22b0
                                    try clear c22b1
                                    try clear c22b2
                                    try clear c23
                                    try clear c23b0
                                    try clear c23b1
                                    try clear c23b2
                                    try clear c27
                                    try clear c27b0
                                    try clear c27b1
                                    try clear c31
                                    try clear p2
                                    try clear p6
                                    obtain ⟨x18_5, rfl, HA, HK5, HO_7, HO_10, HO_15, HB⟩ := hrel
                                    cases gk with
                                    | zero => exact absurd HA.out (by simp [casementlaw18_LexBlanks.l1])
                                    | succ k5 =>
                                      have H := HA.out
                                      clear HA
                                      simp only [casementlaw18_LexBlanks.l1] at H
                                      by_cases c32 : x18_5 < (t187.length : Int)
                                      · rw [if_pos c32] at H
                                        have c32b0 : decide (x18_5 < (t187.length : Int)) = true := decide_eq_true c32
                                        clear c32
                                        have HC33 := Aside0.mk H
                                        clear H
                                        obtain ⟨Ao34, co34, eo34⟩ := Kd.R_slice HO_15.out
                                        subst eo34
                                        go_upto_if 100 with (first | ((with_reducible refine gate_dst (N := 21) rfl ?_); (try (refine gate_guard (by rfl) ?_; dsimp only)); refine box_event ?hg (N := 21) ?hd (cs := #[.int .i64 0, .string (⟨#[]⟩ : ByteArray), .int .i64 0]) (t := 33) ?hr ?_; (case hd => rfl); (case hg => rfl); (case hr => first | (go_simp; done) | (go_simp; rfl)); intro gb193 hg w35 hbox hb; have n0_ := Aside0.mk (Kd.R_below (Kd.R_elderB (by (with_reducible repeat (first | apply Kd.R_alloc | apply Kd.R_drewN | apply Kd.R_drew)); exact HO_7.out) gb193 (Nat.le_of_eq hg.symm)) hb); have n1_ := Aside0.mk (Kd.R_below (Kd.R_elderB (by (with_reducible repeat (first | apply Kd.R_alloc | apply Kd.R_drewN | apply Kd.R_drew)); exact HO_10.out) gb193 (Nat.le_of_eq hg.symm)) hb); have n2_ := Aside0.mk (Kd.R_below (Kd.R_elderB (by (with_reducible repeat (first | apply Kd.R_alloc | apply Kd.R_drewN | apply Kd.R_drew)); exact HO_15.out) gb193 (Nat.le_of_eq hg.symm)) hb); have n3_ := Aside0.mk (below_step (by repeat (first | (with_reducible first | exact HB.out | apply below_alloc | apply pw_below_drewN | apply below_drew1) | exact HB.out)) hb); have n4_ := Aside0.mk (hbox); have n5_ := Aside0.mk ((by rw [hg]; exact (below_size (by repeat (first | (with_reducible first | exact HB.out | apply below_alloc | apply pw_below_drewN | apply below_drew1) | exact HB.out))) : w.heap.size ≤ gb193)); have n6_ := Aside0.mk ((by rw [hg]; exact (below_size (by repeat (first | (with_reducible first | exact HB.out | apply below_alloc | apply pw_below_drewN | apply below_drew1) | exact HB.out))) : w.heap.size ≤ gb193)); clear HO_7; clear HO_10; clear HO_15; clear HB; have HO_7 := n0_; have HO_10 := n1_; have HO_15 := n2_; have HB := n3_; have BK193 := n4_; have GW193 := n5_; have GE193 := n6_; clear n0_ n1_ n2_ n3_ n4_ n5_ n6_; clear hb hbox hg; have hcz36_0 : w35.cell? ⟨gb193, 0, none⟩ = some (.int .i64 0) := (blk_cell BK193.out 0).trans rfl; have hcz36_1 : w35.cell? ⟨gb193, 1, none⟩ = some (.string (⟨#[]⟩ : ByteArray)) := (blk_cell BK193.out 1).trans rfl; have hcz36_2 : w35.cell? ⟨gb193, 2, none⟩ = some (.int .i64 0) := (blk_cell BK193.out 2).trans rfl; have hfz36_0 := blk_frozen BK193.out 0; have hfz36_1 := blk_frozen BK193.out 1; have hfz36_2 := blk_frozen BK193.out 2; obtain ⟨Ao37, co37, eo37⟩ := Kd.R_slice HO_7.out; subst eo37))
                                        repeat (go_quiet (first | ((with_reducible refine gate_dst (N := 21) rfl ?_); (try (refine gate_guard (by rfl) ?_; dsimp only)); refine box_event ?hg (N := 21) ?hd (cs := #[.int .i64 0, .string (⟨#[]⟩ : ByteArray), .int .i64 0]) (t := 33) ?hr ?_; (case hd => rfl); (case hg => rfl); (case hr => first | (go_simp; done) | (go_simp; rfl)); intro gb193 hg w35 hbox hb; have n0_ := Aside0.mk (Kd.R_below (Kd.R_elderB (by (with_reducible repeat (first | apply Kd.R_alloc | apply Kd.R_drewN | apply Kd.R_drew)); exact HO_7.out) gb193 (Nat.le_of_eq hg.symm)) hb); have n1_ := Aside0.mk (Kd.R_below (Kd.R_elderB (by (with_reducible repeat (first | apply Kd.R_alloc | apply Kd.R_drewN | apply Kd.R_drew)); exact HO_10.out) gb193 (Nat.le_of_eq hg.symm)) hb); have n2_ := Aside0.mk (Kd.R_below (Kd.R_elderB (by (with_reducible repeat (first | apply Kd.R_alloc | apply Kd.R_drewN | apply Kd.R_drew)); exact HO_15.out) gb193 (Nat.le_of_eq hg.symm)) hb); have n3_ := Aside0.mk (below_step (by repeat (first | (with_reducible first | exact HB.out | apply below_alloc | apply pw_below_drewN | apply below_drew1) | exact HB.out)) hb); have n4_ := Aside0.mk (hbox); have n5_ := Aside0.mk ((by rw [hg]; exact (below_size (by repeat (first | (with_reducible first | exact HB.out | apply below_alloc | apply pw_below_drewN | apply below_drew1) | exact HB.out))) : w.heap.size ≤ gb193)); have n6_ := Aside0.mk ((by rw [hg]; exact (below_size (by repeat (first | (with_reducible first | exact HB.out | apply below_alloc | apply pw_below_drewN | apply below_drew1) | exact HB.out))) : w.heap.size ≤ gb193)); clear HO_7; clear HO_10; clear HO_15; clear HB; have HO_7 := n0_; have HO_10 := n1_; have HO_15 := n2_; have HB := n3_; have BK193 := n4_; have GW193 := n5_; have GE193 := n6_; clear n0_ n1_ n2_ n3_ n4_ n5_ n6_; clear hb hbox hg; have hcz36_0 : w35.cell? ⟨gb193, 0, none⟩ = some (.int .i64 0) := (blk_cell BK193.out 0).trans rfl; have hcz36_1 : w35.cell? ⟨gb193, 1, none⟩ = some (.string (⟨#[]⟩ : ByteArray)) := (blk_cell BK193.out 1).trans rfl; have hcz36_2 : w35.cell? ⟨gb193, 2, none⟩ = some (.int .i64 0) := (blk_cell BK193.out 2).trans rfl; have hfz36_0 := blk_frozen BK193.out 0; have hfz36_1 := blk_frozen BK193.out 1; have hfz36_2 := blk_frozen BK193.out 2; obtain ⟨Ao37, co37, eo37⟩ := Kd.R_slice HO_7.out; subst eo37)); go_upto_if 100 with (first | ((with_reducible refine gate_dst (N := 21) rfl ?_); (try (refine gate_guard (by rfl) ?_; dsimp only)); refine box_event ?hg (N := 21) ?hd (cs := #[.int .i64 0, .string (⟨#[]⟩ : ByteArray), .int .i64 0]) (t := 33) ?hr ?_; (case hd => rfl); (case hg => rfl); (case hr => first | (go_simp; done) | (go_simp; rfl)); intro gb193 hg w35 hbox hb; have n0_ := Aside0.mk (Kd.R_below (Kd.R_elderB (by (with_reducible repeat (first | apply Kd.R_alloc | apply Kd.R_drewN | apply Kd.R_drew)); exact HO_7.out) gb193 (Nat.le_of_eq hg.symm)) hb); have n1_ := Aside0.mk (Kd.R_below (Kd.R_elderB (by (with_reducible repeat (first | apply Kd.R_alloc | apply Kd.R_drewN | apply Kd.R_drew)); exact HO_10.out) gb193 (Nat.le_of_eq hg.symm)) hb); have n2_ := Aside0.mk (Kd.R_below (Kd.R_elderB (by (with_reducible repeat (first | apply Kd.R_alloc | apply Kd.R_drewN | apply Kd.R_drew)); exact HO_15.out) gb193 (Nat.le_of_eq hg.symm)) hb); have n3_ := Aside0.mk (below_step (by repeat (first | (with_reducible first | exact HB.out | apply below_alloc | apply pw_below_drewN | apply below_drew1) | exact HB.out)) hb); have n4_ := Aside0.mk (hbox); have n5_ := Aside0.mk ((by rw [hg]; exact (below_size (by repeat (first | (with_reducible first | exact HB.out | apply below_alloc | apply pw_below_drewN | apply below_drew1) | exact HB.out))) : w.heap.size ≤ gb193)); have n6_ := Aside0.mk ((by rw [hg]; exact (below_size (by repeat (first | (with_reducible first | exact HB.out | apply below_alloc | apply pw_below_drewN | apply below_drew1) | exact HB.out))) : w.heap.size ≤ gb193)); clear HO_7; clear HO_10; clear HO_15; clear HB; have HO_7 := n0_; have HO_10 := n1_; have HO_15 := n2_; have HB := n3_; have BK193 := n4_; have GW193 := n5_; have GE193 := n6_; clear n0_ n1_ n2_ n3_ n4_ n5_ n6_; clear hb hbox hg; have hcz36_0 : w35.cell? ⟨gb193, 0, none⟩ = some (.int .i64 0) := (blk_cell BK193.out 0).trans rfl; have hcz36_1 : w35.cell? ⟨gb193, 1, none⟩ = some (.string (⟨#[]⟩ : ByteArray)) := (blk_cell BK193.out 1).trans rfl; have hcz36_2 : w35.cell? ⟨gb193, 2, none⟩ = some (.int .i64 0) := (blk_cell BK193.out 2).trans rfl; have hfz36_0 := blk_frozen BK193.out 0; have hfz36_1 := blk_frozen BK193.out 1; have hfz36_2 := blk_frozen BK193.out 2; obtain ⟨Ao37, co37, eo37⟩ := Kd.R_slice HO_7.out; subst eo37)))
                                        (try simp only [Act.put, List.setIfInBounds_toArray, List.set_cons_zero, List.set_cons_succ])
                                        go_cut [20] (fun v20 wc => ∃ (kq : Nat) (x20_32 : Int) (x194000_32 : Int) (x194001_32 : ByteArray) (x194002_32 : Int), v20 = .int .i64 x20_32 ∧ Aside0 (casementlaw18_LexBlanks.j5 kq a0 t176 t181 x13_3 t187 x18_5 x20_32 x194000_32 x194001_32 x194002_32 = some r) ∧ Aside0 (kq ≤ k5) ∧ Aside0 (Kd.R k33 33 wc w.heap.size (fun k_ => some k_ ≠ (v184 : Value).ownBlock ∧ some k_ ≠ ((.slice Ao34 t187.length co34) : Value).ownBlock ∧ k_ ≠ gb193) (.slice Ao37 t176.length co37) t176) ∧ Aside0 (Kd.R k33 33 wc w.heap.size (fun k_ => some k_ ≠ ((.slice Ao37 t176.length co37) : Value).ownBlock ∧ some k_ ≠ ((.slice Ao34 t187.length co34) : Value).ownBlock ∧ k_ ≠ gb193) v184 t181) ∧ Aside0 (Kd.R k33 33 wc w.heap.size (fun k_ => some k_ ≠ ((.slice Ao37 t176.length co37) : Value).ownBlock ∧ some k_ ≠ (v184 : Value).ownBlock ∧ k_ ≠ gb193) (.slice Ao34 t187.length co34) t187) ∧ Aside0 (wc.heap[gb193]? = some (.cells #[.int .i64 x194000_32, .string x194001_32, .int .i64 x194002_32] 33 (0, 0))) ∧ Aside0 (Below w.heap.size w wc))
                                        case first =>
                                          have H := HC33.out
                                          clear HC33
                                          by_cases c38 : x18_5 < (wrap64 ((t176.length : Int) - 1))
                                          · rw [if_pos c38] at H
                                            have c38b0 : decide (x18_5 < (wrap64 ((t176.length : Int) - 1))) = true := decide_eq_true c38
                                            clear c38
                                            (first | rw [c38b0] | (simp only [i64_w, i32_w]; rw [c38b0]) | skip)
                                            by_cases c39 : 0 ≤ x18_5
                                            · rw [if_pos c39] at H
                                              have c39b0 : decide (0 ≤ x18_5) = true := decide_eq_true c39
                                              clear c39
                                              by_cases c40 : x18_5 < (t176.length : Int)
                                              · rw [if_pos c40] at H
                                                have c40b0 : decide (x18_5 < (t176.length : Int)) = true := decide_eq_true c40
                                                clear c40
                                                have H' := Aside0.mk H
                                                clear H
                                                have p194 : 0 ≤ (x18_5 : Int) := of_decide_eq_true (by first | (with_reducible assumption) | assumption)
                                                have q194 : x18_5 < (t176.length : Int) := of_decide_eq_true (by first | (with_reducible assumption) | assumption)
                                                obtain ⟨ad194, e194, hx194_0, hx194_1, hx194_2⟩ := at_T33 (Kd.R_reads' HO_7.out).2.2 x18_5 p194 q194
                                                cases e194
                                                have hn194_0 : ad194.block ≠ gb193 := Kd.own_blk (Kd.R_away HO_7.out (fun _ hk => hk.2))
                                                have hn194_1 : ad194.block ≠ gb193 := Kd.own_blk (Kd.R_away HO_7.out (fun _ hk => hk.2))
                                                have hn194_2 : ad194.block ≠ gb193 := Kd.own_blk (Kd.R_away HO_7.out (fun _ hk => hk.2))
                                                replace hx194_0 := (cell_far (p := ⟨gb193, 0, none⟩) (by first | (rw [add_block]; exact hn194_0) | (show (Addr.add _ _).block ≠ _; rw [add_block]; exact hn194_0) | exact hn194_0) (.int .i64 0)).trans hx194_0
                                                replace hx194_1 := (cell_far (p := ⟨gb193, 0, none⟩) (by first | (rw [add_block]; exact hn194_0) | (show (Addr.add _ _).block ≠ _; rw [add_block]; exact hn194_0) | exact hn194_0) (.int .i64 0)).trans hx194_1
                                                replace hx194_2 := (cell_far (p := ⟨gb193, 0, none⟩) (by first | (rw [add_block]; exact hn194_0) | (show (Addr.add _ _).block ≠ _; rw [add_block]; exact hn194_0) | exact hn194_0) (.int .i64 0)).trans hx194_2
                                                replace hx194_0 := (cell_far (p := ⟨gb193, 1, none⟩) (by first | (rw [add_block]; exact hn194_1) | (show (Addr.add _ _).block ≠ _; rw [add_block]; exact hn194_1) | exact hn194_1) (.string (⟨#[]⟩ : ByteArray))).trans hx194_0
                                                replace hx194_1 := (cell_far (p := ⟨gb193, 1, none⟩) (by first | (rw [add_block]; exact hn194_1) | (show (Addr.add _ _).block ≠ _; rw [add_block]; exact hn194_1) | exact hn194_1) (.string (⟨#[]⟩ : ByteArray))).trans hx194_1
                                                replace hx194_2 := (cell_far (p := ⟨gb193, 1, none⟩) (by first | (rw [add_block]; exact hn194_1) | (show (Addr.add _ _).block ≠ _; rw [add_block]; exact hn194_1) | exact hn194_1) (.string (⟨#[]⟩ : ByteArray))).trans hx194_2
                                                replace hx194_0 := (cell_far (p := ⟨gb193, 2, none⟩) (by first | (rw [add_block]; exact hn194_2) | (show (Addr.add _ _).block ≠ _; rw [add_block]; exact hn194_2) | exact hn194_2) (.int .i64 0)).trans hx194_0
                                                replace hx194_1 := (cell_far (p := ⟨gb193, 2, none⟩) (by first | (rw [add_block]; exact hn194_2) | (show (Addr.add _ _).block ≠ _; rw [add_block]; exact hn194_2) | exact hn194_2) (.int .i64 0)).trans hx194_1
                                                replace hx194_2 := (cell_far (p := ⟨gb193, 2, none⟩) (by first | (rw [add_block]; exact hn194_2) | (show (Addr.add _ _).block ≠ _; rw [add_block]; exact hn194_2) | exact hn194_2) (.int .i64 0)).trans hx194_2
                                                (try have hy194_0 := fun (n_ : Nat) => (show (((((w35.drewN n_).setCell ⟨gb193, 0, none⟩ (.int .i64 0)).setCell ⟨gb193, 1, none⟩ (.string (⟨#[]⟩ : ByteArray))).setCell ⟨gb193, 2, none⟩ (.int .i64 0))).cell? _ = some _ from hx194_0))
                                                (try have hy194_1 := fun (n_ : Nat) => (show (((((w35.drewN n_).setCell ⟨gb193, 0, none⟩ (.int .i64 0)).setCell ⟨gb193, 1, none⟩ (.string (⟨#[]⟩ : ByteArray))).setCell ⟨gb193, 2, none⟩ (.int .i64 0))).cell? _ = some _ from hx194_1))
                                                (try have hy194_2 := fun (n_ : Nat) => (show (((((w35.drewN n_).setCell ⟨gb193, 0, none⟩ (.int .i64 0)).setCell ⟨gb193, 1, none⟩ (.string (⟨#[]⟩ : ByteArray))).setCell ⟨gb193, 2, none⟩ (.int .i64 0))).cell? _ = some _ from hx194_2))
                                                clear hn194_0
                                                clear hn194_1
                                                clear hn194_2
                                                replace p194 := eq_true p194
                                                replace q194 := eq_true q194
                                                have hcz41_0 : w35.cell? ⟨gb193, 0, none⟩ = some (.int .i64 0) := (blk_cell BK193.out 0).trans rfl
                                                have hcz41_1 : w35.cell? ⟨gb193, 1, none⟩ = some (.string (⟨#[]⟩ : ByteArray)) := (blk_cell BK193.out 1).trans rfl
                                                have hcz41_2 : w35.cell? ⟨gb193, 2, none⟩ = some (.int .i64 0) := (blk_cell BK193.out 2).trans rfl
                                                have hfz41_0 := blk_frozen BK193.out 0
                                                have hfz41_1 := blk_frozen BK193.out 1
                                                have hfz41_2 := blk_frozen BK193.out 2
                                                go_wp2
                                                repeat (go_quiet (fail); try go_wp2)
                                                go_meet
                                                case rel => exact ⟨_, ((x13_3.size : Int)), ((rd_T33 t176 x18_5).f0), ((rd_T33 t176 x18_5).f1), ((rd_T33 t176 x18_5).f2), (by first | rfl | (simp; done) | (simp [*]; done) | (congr 2; generalize ByteArray.toList _ = l_; cases l_ <;> rfl)), H', ⟨by have := HJ3.out; have := HJ10.out; have := HK3.out; have := HJ24.out; have := HK5.out; first | omega | exact Nat.le_refl _⟩, ⟨by (with_reducible repeat (first | apply Kd.R_alloc | apply Kd.R_drewN | apply Kd.R_drew)); exact Kd.R_mono (Kd.R_far (p := ⟨gb193, 2, none⟩) (Kd.R_far (p := ⟨gb193, 1, none⟩) (Kd.R_far (p := ⟨gb193, 0, none⟩) (Kd.R_far (p := ⟨gb193, 2, none⟩) (Kd.R_far (p := ⟨gb193, 1, none⟩) (Kd.R_far (p := ⟨gb193, 0, none⟩) (Kd.R_mono HO_7.out (fun k_ hk => (⟨hk, hk.2⟩ : _ ∧ k_ ≠ gb193))) (fun _ hk => hk.2) (.int .i64 0)) (fun _ hk => hk.2) (.string (⟨#[]⟩ : ByteArray))) (fun _ hk => hk.2) (.int .i64 0)) (fun _ hk => hk.2) (.int .i64 ((rd_T33 t176 x18_5).f0))) (fun _ hk => hk.2) (.string ((rd_T33 t176 x18_5).f1))) (fun _ hk => hk.2) (.int .i64 ((rd_T33 t176 x18_5).f2))) (fun _ hk => ⟨hk.1.1.1, ⟨hk.1.1.2, hk.1.2⟩⟩)⟩, ⟨by (with_reducible repeat (first | apply Kd.R_alloc | apply Kd.R_drewN | apply Kd.R_drew)); exact Kd.R_mono (Kd.R_far (p := ⟨gb193, 2, none⟩) (Kd.R_far (p := ⟨gb193, 1, none⟩) (Kd.R_far (p := ⟨gb193, 0, none⟩) (Kd.R_far (p := ⟨gb193, 2, none⟩) (Kd.R_far (p := ⟨gb193, 1, none⟩) (Kd.R_far (p := ⟨gb193, 0, none⟩) (Kd.R_mono HO_10.out (fun k_ hk => (⟨hk, hk.2⟩ : _ ∧ k_ ≠ gb193))) (fun _ hk => hk.2) (.int .i64 0)) (fun _ hk => hk.2) (.string (⟨#[]⟩ : ByteArray))) (fun _ hk => hk.2) (.int .i64 0)) (fun _ hk => hk.2) (.int .i64 ((rd_T33 t176 x18_5).f0))) (fun _ hk => hk.2) (.string ((rd_T33 t176 x18_5).f1))) (fun _ hk => hk.2) (.int .i64 ((rd_T33 t176 x18_5).f2))) (fun _ hk => ⟨hk.1.1.1, ⟨hk.1.1.2, hk.1.2⟩⟩)⟩, ⟨by (with_reducible repeat (first | apply Kd.R_alloc | apply Kd.R_drewN | apply Kd.R_drew)); exact Kd.R_mono (Kd.R_far (p := ⟨gb193, 2, none⟩) (Kd.R_far (p := ⟨gb193, 1, none⟩) (Kd.R_far (p := ⟨gb193, 0, none⟩) (Kd.R_far (p := ⟨gb193, 2, none⟩) (Kd.R_far (p := ⟨gb193, 1, none⟩) (Kd.R_far (p := ⟨gb193, 0, none⟩) (Kd.R_mono HO_15.out (fun k_ hk => (⟨hk, hk.2⟩ : _ ∧ k_ ≠ gb193))) (fun _ hk => hk.2) (.int .i64 0)) (fun _ hk => hk.2) (.string (⟨#[]⟩ : ByteArray))) (fun _ hk => hk.2) (.int .i64 0)) (fun _ hk => hk.2) (.int .i64 ((rd_T33 t176 x18_5).f0))) (fun _ hk => hk.2) (.string ((rd_T33 t176 x18_5).f1))) (fun _ hk => hk.2) (.int .i64 ((rd_T33 t176 x18_5).f2))) (fun _ hk => ⟨hk.1.1.1, ⟨hk.1.1.2, hk.1.2⟩⟩)⟩, ⟨by (with_reducible repeat (first | refine blk_drewN ?_ _ | refine blk_drew ?_ | refine blk_alloc ?_ _)); refine blk_put (cs := #[.int .i64 ((rd_T33 t176 x18_5).f0), .string ((rd_T33 t176 x18_5).f1), .int .i64 0]) ?_ 2 _ rfl; (with_reducible repeat (first | refine blk_drewN ?_ _ | refine blk_drew ?_ | refine blk_alloc ?_ _)); refine blk_put (cs := #[.int .i64 ((rd_T33 t176 x18_5).f0), .string (⟨#[]⟩ : ByteArray), .int .i64 0]) ?_ 1 _ rfl; (with_reducible repeat (first | refine blk_drewN ?_ _ | refine blk_drew ?_ | refine blk_alloc ?_ _)); refine blk_put (cs := #[.int .i64 0, .string (⟨#[]⟩ : ByteArray), .int .i64 0]) ?_ 0 _ rfl; (with_reducible repeat (first | refine blk_drewN ?_ _ | refine blk_drew ?_ | refine blk_alloc ?_ _)); refine blk_put (cs := #[.int .i64 0, .string (⟨#[]⟩ : ByteArray), .int .i64 0]) ?_ 2 _ rfl; (with_reducible repeat (first | refine blk_drewN ?_ _ | refine blk_drew ?_ | refine blk_alloc ?_ _)); refine blk_put (cs := #[.int .i64 0, .string (⟨#[]⟩ : ByteArray), .int .i64 0]) ?_ 1 _ rfl; (with_reducible repeat (first | refine blk_drewN ?_ _ | refine blk_drew ?_ | refine blk_alloc ?_ _)); refine blk_put (cs := #[.int .i64 0, .string (⟨#[]⟩ : ByteArray), .int .i64 0]) ?_ 0 _ rfl; (with_reducible repeat (first | refine blk_drewN ?_ _ | refine blk_drew ?_ | refine blk_alloc ?_ _)); exact BK193.out⟩, ⟨by repeat (first | (with_reducible first | exact HB.out | apply below_alloc | apply pw_below_drewN | apply below_drew1 | refine below_set ?_ GE193.out) | exact HB.out)⟩⟩
                                              · rw [if_neg c40] at H
                                                exact absurd H (by simp)
                                            · rw [if_neg c39] at H
                                              exact absurd H (by simp)
                                          · rw [if_neg c38] at H
                                            have c38b0 : decide (x18_5 < (wrap64 ((t176.length : Int) - 1))) = false := decide_eq_false c38
                                            clear c38
                                            (first | rw [c38b0] | (simp only [i64_w, i32_w]; rw [c38b0]) | skip)
                                            obtain ⟨ji42, hji42⟩ : ∃ j_ : Int, (wrap64 ((wrap64 (x18_5 - (t176.length : Int))) + 1)) = j_ := ⟨_, rfl⟩
                                            replace H : (if 0 ≤ (ji42) then (if (ji42) < (t181.length : Int) then (casementlaw18_LexBlanks.j5 k5 a0 t176 t181 x13_3 t187 x18_5 (wrap64 ((wrap64 (2 * (x13_3.size : Int))) + (a0.size : Int))) ((rd_T33 t181 (ji42)).f0) ((rd_T33 t181 (ji42)).f1) ((rd_T33 t181 (ji42)).f2)) else (none)) else (none)) = some r := by first | (rw [hji42] at H; exact H) | (simp only [hji42] at H ⊢; exact H)
                                            have hji42w : (IntKind.i64.wrap ((wrap64 (x18_5 - (t176.length : Int))) + 1)) = ji42 := (i64_w _).trans hji42
                                            by_cases c43 : 0 ≤ (ji42)
                                            · rw [if_pos c43] at H
                                              have c43b0 : decide (0 ≤ (ji42)) = true := decide_eq_true c43
                                              clear c43
                                              by_cases c44 : (ji42) < (t181.length : Int)
                                              · rw [if_pos c44] at H
                                                have c44b0 : decide ((ji42) < (t181.length : Int)) = true := decide_eq_true c44
                                                clear c44
                                                have H' := Aside0.mk H
                                                clear H
                                                obtain ⟨Ao45, co45, eo45⟩ := Kd.R_slice HO_10.out
                                                subst eo45
                                                have p195 : 0 ≤ ((ji42) : Int) := of_decide_eq_true (by first | (with_reducible assumption) | assumption)
                                                have q195 : (ji42) < (t181.length : Int) := of_decide_eq_true (by first | (with_reducible assumption) | assumption)
                                                obtain ⟨ad195, e195, hx195_0, hx195_1, hx195_2⟩ := at_T33 (Kd.R_reads' HO_10.out).2.2 (ji42) p195 q195
                                                cases e195
                                                have hn195_0 : ad195.block ≠ gb193 := Kd.own_blk (Kd.R_away HO_10.out (fun _ hk => hk.2))
                                                have hn195_1 : ad195.block ≠ gb193 := Kd.own_blk (Kd.R_away HO_10.out (fun _ hk => hk.2))
                                                have hn195_2 : ad195.block ≠ gb193 := Kd.own_blk (Kd.R_away HO_10.out (fun _ hk => hk.2))
                                                replace hx195_0 := (cell_far (p := ⟨gb193, 0, none⟩) (by first | (rw [add_block]; exact hn195_0) | (show (Addr.add _ _).block ≠ _; rw [add_block]; exact hn195_0) | exact hn195_0) (.int .i64 0)).trans hx195_0
                                                replace hx195_1 := (cell_far (p := ⟨gb193, 0, none⟩) (by first | (rw [add_block]; exact hn195_0) | (show (Addr.add _ _).block ≠ _; rw [add_block]; exact hn195_0) | exact hn195_0) (.int .i64 0)).trans hx195_1
                                                replace hx195_2 := (cell_far (p := ⟨gb193, 0, none⟩) (by first | (rw [add_block]; exact hn195_0) | (show (Addr.add _ _).block ≠ _; rw [add_block]; exact hn195_0) | exact hn195_0) (.int .i64 0)).trans hx195_2
                                                replace hx195_0 := (cell_far (p := ⟨gb193, 1, none⟩) (by first | (rw [add_block]; exact hn195_1) | (show (Addr.add _ _).block ≠ _; rw [add_block]; exact hn195_1) | exact hn195_1) (.string (⟨#[]⟩ : ByteArray))).trans hx195_0
                                                replace hx195_1 := (cell_far (p := ⟨gb193, 1, none⟩) (by first | (rw [add_block]; exact hn195_1) | (show (Addr.add _ _).block ≠ _; rw [add_block]; exact hn195_1) | exact hn195_1) (.string (⟨#[]⟩ : ByteArray))).trans hx195_1
                                                replace hx195_2 := (cell_far (p := ⟨gb193, 1, none⟩) (by first | (rw [add_block]; exact hn195_1) | (show (Addr.add _ _).block ≠ _; rw [add_block]; exact hn195_1) | exact hn195_1) (.string (⟨#[]⟩ : ByteArray))).trans hx195_2
                                                replace hx195_0 := (cell_far (p := ⟨gb193, 2, none⟩) (by first | (rw [add_block]; exact hn195_2) | (show (Addr.add _ _).block ≠ _; rw [add_block]; exact hn195_2) | exact hn195_2) (.int .i64 0)).trans hx195_0
                                                replace hx195_1 := (cell_far (p := ⟨gb193, 2, none⟩) (by first | (rw [add_block]; exact hn195_2) | (show (Addr.add _ _).block ≠ _; rw [add_block]; exact hn195_2) | exact hn195_2) (.int .i64 0)).trans hx195_1
                                                replace hx195_2 := (cell_far (p := ⟨gb193, 2, none⟩) (by first | (rw [add_block]; exact hn195_2) | (show (Addr.add _ _).block ≠ _; rw [add_block]; exact hn195_2) | exact hn195_2) (.int .i64 0)).trans hx195_2
                                                (try have hy195_0 := fun (n_ : Nat) => (show (((((w35.drewN n_).setCell ⟨gb193, 0, none⟩ (.int .i64 0)).setCell ⟨gb193, 1, none⟩ (.string (⟨#[]⟩ : ByteArray))).setCell ⟨gb193, 2, none⟩ (.int .i64 0))).cell? _ = some _ from hx195_0))
                                                (try have hy195_1 := fun (n_ : Nat) => (show (((((w35.drewN n_).setCell ⟨gb193, 0, none⟩ (.int .i64 0)).setCell ⟨gb193, 1, none⟩ (.string (⟨#[]⟩ : ByteArray))).setCell ⟨gb193, 2, none⟩ (.int .i64 0))).cell? _ = some _ from hx195_1))
                                                (try have hy195_2 := fun (n_ : Nat) => (show (((((w35.drewN n_).setCell ⟨gb193, 0, none⟩ (.int .i64 0)).setCell ⟨gb193, 1, none⟩ (.string (⟨#[]⟩ : ByteArray))).setCell ⟨gb193, 2, none⟩ (.int .i64 0))).cell? _ = some _ from hx195_2))
                                                clear hn195_0
                                                clear hn195_1
                                                clear hn195_2
                                                replace p195 := eq_true p195
                                                replace q195 := eq_true q195
                                                have hcz46_0 : w35.cell? ⟨gb193, 0, none⟩ = some (.int .i64 0) := (blk_cell BK193.out 0).trans rfl
                                                have hcz46_1 : w35.cell? ⟨gb193, 1, none⟩ = some (.string (⟨#[]⟩ : ByteArray)) := (blk_cell BK193.out 1).trans rfl
                                                have hcz46_2 : w35.cell? ⟨gb193, 2, none⟩ = some (.int .i64 0) := (blk_cell BK193.out 2).trans rfl
                                                have hfz46_0 := blk_frozen BK193.out 0
                                                have hfz46_1 := blk_frozen BK193.out 1
                                                have hfz46_2 := blk_frozen BK193.out 2
                                                go_wp2
                                                repeat (go_quiet (fail); try go_wp2)
                                                go_meet
                                                case rel => exact ⟨_, (wrap64 ((wrap64 (2 * (x13_3.size : Int))) + (a0.size : Int))), ((rd_T33 t181 (ji42)).f0), ((rd_T33 t181 (ji42)).f1), ((rd_T33 t181 (ji42)).f2), (by first | rfl | (simp; done) | (simp [*]; done) | (congr 2; generalize ByteArray.toList _ = l_; cases l_ <;> rfl)), H', ⟨by have := HJ3.out; have := HJ10.out; have := HK3.out; have := HJ24.out; have := HK5.out; first | omega | exact Nat.le_refl _⟩, ⟨by (with_reducible repeat (first | apply Kd.R_alloc | apply Kd.R_drewN | apply Kd.R_drew)); exact Kd.R_mono (Kd.R_far (p := ⟨gb193, 2, none⟩) (Kd.R_far (p := ⟨gb193, 1, none⟩) (Kd.R_far (p := ⟨gb193, 0, none⟩) (Kd.R_far (p := ⟨gb193, 2, none⟩) (Kd.R_far (p := ⟨gb193, 1, none⟩) (Kd.R_far (p := ⟨gb193, 0, none⟩) (Kd.R_mono HO_7.out (fun k_ hk => (⟨hk, hk.2⟩ : _ ∧ k_ ≠ gb193))) (fun _ hk => hk.2) (.int .i64 0)) (fun _ hk => hk.2) (.string (⟨#[]⟩ : ByteArray))) (fun _ hk => hk.2) (.int .i64 0)) (fun _ hk => hk.2) (.int .i64 ((rd_T33 t181 (ji42)).f0))) (fun _ hk => hk.2) (.string ((rd_T33 t181 (ji42)).f1))) (fun _ hk => hk.2) (.int .i64 ((rd_T33 t181 (ji42)).f2))) (fun _ hk => ⟨hk.1.1.1, ⟨hk.1.1.2, hk.1.2⟩⟩)⟩, ⟨by (with_reducible repeat (first | apply Kd.R_alloc | apply Kd.R_drewN | apply Kd.R_drew)); exact Kd.R_mono (Kd.R_far (p := ⟨gb193, 2, none⟩) (Kd.R_far (p := ⟨gb193, 1, none⟩) (Kd.R_far (p := ⟨gb193, 0, none⟩) (Kd.R_far (p := ⟨gb193, 2, none⟩) (Kd.R_far (p := ⟨gb193, 1, none⟩) (Kd.R_far (p := ⟨gb193, 0, none⟩) (Kd.R_mono HO_10.out (fun k_ hk => (⟨hk, hk.2⟩ : _ ∧ k_ ≠ gb193))) (fun _ hk => hk.2) (.int .i64 0)) (fun _ hk => hk.2) (.string (⟨#[]⟩ : ByteArray))) (fun _ hk => hk.2) (.int .i64 0)) (fun _ hk => hk.2) (.int .i64 ((rd_T33 t181 (ji42)).f0))) (fun _ hk => hk.2) (.string ((rd_T33 t181 (ji42)).f1))) (fun _ hk => hk.2) (.int .i64 ((rd_T33 t181 (ji42)).f2))) (fun _ hk => ⟨hk.1.1.1, ⟨hk.1.1.2, hk.1.2⟩⟩)⟩, ⟨by (with_reducible repeat (first | apply Kd.R_alloc | apply Kd.R_drewN | apply Kd.R_drew)); exact Kd.R_mono (Kd.R_far (p := ⟨gb193, 2, none⟩) (Kd.R_far (p := ⟨gb193, 1, none⟩) (Kd.R_far (p := ⟨gb193, 0, none⟩) (Kd.R_far (p := ⟨gb193, 2, none⟩) (Kd.R_far (p := ⟨gb193, 1, none⟩) (Kd.R_far (p := ⟨gb193, 0, none⟩) (Kd.R_mono HO_15.out (fun k_ hk => (⟨hk, hk.2⟩ : _ ∧ k_ ≠ gb193))) (fun _ hk => hk.2) (.int .i64 0)) (fun _ hk => hk.2) (.string (⟨#[]⟩ : ByteArray))) (fun _ hk => hk.2) (.int .i64 0)) (fun _ hk => hk.2) (.int .i64 ((rd_T33 t181 (ji42)).f0))) (fun _ hk => hk.2) (.string ((rd_T33 t181 (ji42)).f1))) (fun _ hk => hk.2) (.int .i64 ((rd_T33 t181 (ji42)).f2))) (fun _ hk => ⟨hk.1.1.1, ⟨hk.1.1.2, hk.1.2⟩⟩)⟩, ⟨by (with_reducible repeat (first | refine blk_drewN ?_ _ | refine blk_drew ?_ | refine blk_alloc ?_ _)); refine blk_put (cs := #[.int .i64 ((rd_T33 t181 (ji42)).f0), .string ((rd_T33 t181 (ji42)).f1), .int .i64 0]) ?_ 2 _ rfl; (with_reducible repeat (first | refine blk_drewN ?_ _ | refine blk_drew ?_ | refine blk_alloc ?_ _)); refine blk_put (cs := #[.int .i64 ((rd_T33 t181 (ji42)).f0), .string (⟨#[]⟩ : ByteArray), .int .i64 0]) ?_ 1 _ rfl; (with_reducible repeat (first | refine blk_drewN ?_ _ | refine blk_drew ?_ | refine blk_alloc ?_ _)); refine blk_put (cs := #[.int .i64 0, .string (⟨#[]⟩ : ByteArray), .int .i64 0]) ?_ 0 _ rfl; (with_reducible repeat (first | refine blk_drewN ?_ _ | refine blk_drew ?_ | refine blk_alloc ?_ _)); refine blk_put (cs := #[.int .i64 0, .string (⟨#[]⟩ : ByteArray), .int .i64 0]) ?_ 2 _ rfl; (with_reducible repeat (first | refine blk_drewN ?_ _ | refine blk_drew ?_ | refine blk_alloc ?_ _)); refine blk_put (cs := #[.int .i64 0, .string (⟨#[]⟩ : ByteArray), .int .i64 0]) ?_ 1 _ rfl; (with_reducible repeat (first | refine blk_drewN ?_ _ | refine blk_drew ?_ | refine blk_alloc ?_ _)); refine blk_put (cs := #[.int .i64 0, .string (⟨#[]⟩ : ByteArray), .int .i64 0]) ?_ 0 _ rfl; (with_reducible repeat (first | refine blk_drewN ?_ _ | refine blk_drew ?_ | refine blk_alloc ?_ _)); exact BK193.out⟩, ⟨by repeat (first | (with_reducible first | exact HB.out | apply below_alloc | apply pw_below_drewN | apply below_drew1 | refine below_set ?_ GE193.out) | exact HB.out)⟩⟩
                                              · rw [if_neg c44] at H
                                                exact absurd H (by simp)
                                            · rw [if_neg c43] at H
                                              exact absurd H (by simp)
                                        case rest =>
                                          clear HC33
                                          try clear c1
                                          try clear p1
                                          try clear q1
                                          try clear hx1
                                          try clear c2
                                          try clear p2
                                          try clear c3
                                          try clear c4
                                          try clear c5
                                          try clear c5b0
                                          try clear c5b1
                                          try clear c6
                                          try clear p6
                                          try clear c14
                                          try clear c14b0
                                          try clear c14b1
                                          try clear c15
                                          try clear c18
                                          try clear c18b0
                                          try clear c19
                                          try clear c19b0
                                          try clear c19b1
                                          try clear c19b2
                                          try clear p19
                                          try clear q19
                                          try clear hx19
                                          try clear c20
                                          try clear c20b0
                                          try clear c20b1
                                          try clear c20b2
                                          try clear c21
                                          try clear c21b0
                                          try clear c21b1
                                          try clear c21b2
                                          try clear c22
                                          try clear c22b0
                                          try clear c22b1
                                          try clear c22b2
                                          try clear c23
                                          try clear c23b0
                                          try clear c23b1
                                          try clear c23b2
                                          try clear c27
                                          try clear c27b0
                                          try clear c27b1
                                          try clear c31
                                          try clear c32
                                          try clear c32b0
                                          try clear c38
                                          try clear c38b0
                                          try clear c39
                                          try clear c39b0
                                          try clear c40
                                          try clear c40b0
                                          try clear c43
                                          try clear c43b0
                                          try clear c44
                                          try clear c44b0
                                          try clear hcz36_0
                                          try clear hcz36_1
                                          try clear hcz36_2
                                          try clear hcz41_0
                                          try clear hcz41_1
                                          try clear hcz41_2
                                          try clear hcz46_0
                                          try clear hcz46_1
                                          try clear hcz46_2
                                          try clear hfz36_0
                                          try clear hfz36_1
                                          try clear hfz36_2
                                          try clear hfz41_0
                                          try clear hfz41_1
                                          try clear hfz41_2
                                          try clear hfz46_0
                                          try clear hfz46_1
                                          try clear hfz46_2
                                          try clear hx194_0
                                          try clear hx194_1
                                          try clear hx194_2
                                          try clear hx195_0
                                          try clear hx195_1
                                          try clear hx195_2
                                          try clear p194
                                          try clear p195
                                          try clear p2
                                          try clear p6
                                          try clear q194
                                          try clear q195
                                          obtain ⟨kq, x20_32, x194000_32, x194001_32, x194002_32, rfl, HA, HJ32, HO_7, HO_10, HO_15, BK193, HB⟩ := hcut
                                          cases kq with
                                          | zero => exact absurd HA.out (by simp [casementlaw18_LexBlanks.j5])
                                          | succ kj32 =>
                                            have H := HA.out
                                            clear HA
                                            simp only [casementlaw18_LexBlanks.j5] at H
                                            by_cases c47 : x194000_32 = 4
                                            · rw [if_pos c47] at H
                                              have c47b0 : (x194000_32 == 4) = true := beq_iff_eq.mpr c47
                                              have c47b1 : (x194000_32 != 4) = false := bne_eq_false_iff_eq.mpr c47
                                              clear c47
                                              by_cases c48 : 0 ≤ x18_5
                                              · rw [if_pos c48] at H
                                                have c48b0 : decide (0 ≤ x18_5) = true := decide_eq_true c48
                                                clear c48
                                                by_cases c49 : x18_5 < (t187.length : Int)
                                                · rw [if_pos c49] at H
                                                  have c49b0 : decide (x18_5 < (t187.length : Int)) = true := decide_eq_true c49
                                                  clear c49
                                                  by_cases c50 : ((rd_T33 t187 x18_5).f0) = x194000_32
                                                  · rw [if_pos c50] at H
                                                    have c50b0 : (((rd_T33 t187 x18_5).f0) == x194000_32) = true := beq_iff_eq.mpr c50
                                                    have c50b1 : (((rd_T33 t187 x18_5).f0) != x194000_32) = false := bne_eq_false_iff_eq.mpr c50
                                                    clear c50
                                                    by_cases c51 : ((rd_T33 t187 x18_5).f1).toList = x194001_32.toList
                                                    · rw [if_pos c51] at H
                                                      have c51b0 : (((rd_T33 t187 x18_5).f1).toList == x194001_32.toList) = true := beq_iff_eq.mpr c51
                                                      have c51b1 : (((rd_T33 t187 x18_5).f1).toList != x194001_32.toList) = false := bne_eq_false_iff_eq.mpr c51
                                                      clear c51
                                                      by_cases c52 : ((rd_T33 t187 x18_5).f2) = (wrap64 (x194002_32 + (wrap64 (x20_32 + (x13_3.size : Int)))))
                                                      · rw [if_pos c52] at H
                                                        have c52b0 : (((rd_T33 t187 x18_5).f2) == (wrap64 (x194002_32 + (wrap64 (x20_32 + (x13_3.size : Int)))))) = true := beq_iff_eq.mpr c52
                                                        have c52b1 : (((rd_T33 t187 x18_5).f2) != (wrap64 (x194002_32 + (wrap64 (x20_32 + (x13_3.size : Int)))))) = false := bne_eq_false_iff_eq.mpr c52
                                                        clear c52
                                                        have H' := Aside0.mk H
                                                        clear H
                                                        have hcz53_0 : wc.cell? ⟨gb193, 0, none⟩ = some (.int .i64 x194000_32) := (blk_cell BK193.out 0).trans rfl
                                                        have hcz53_1 : wc.cell? ⟨gb193, 1, none⟩ = some (.string x194001_32) := (blk_cell BK193.out 1).trans rfl
                                                        have hcz53_2 : wc.cell? ⟨gb193, 2, none⟩ = some (.int .i64 x194002_32) := (blk_cell BK193.out 2).trans rfl
                                                        have hfz53_0 := blk_frozen BK193.out 0
                                                        have hfz53_1 := blk_frozen BK193.out 1
                                                        have hfz53_2 := blk_frozen BK193.out 2
                                                        have p196 : 0 ≤ (x18_5 : Int) := of_decide_eq_true (by first | (with_reducible assumption) | assumption)
                                                        have q196 : x18_5 < (t187.length : Int) := of_decide_eq_true (by first | (with_reducible assumption) | assumption)
                                                        obtain ⟨ad196, e196, hx196_0, hx196_1, hx196_2⟩ := at_T33 (Kd.R_reads' HO_15.out).2.2 x18_5 p196 q196
                                                        cases e196
                                                        replace p196 := eq_true p196
                                                        replace q196 := eq_true q196
                                                        have p197 : 0 ≤ (x18_5 : Int) := of_decide_eq_true (by first | (with_reducible assumption) | assumption)
                                                        have q197 : x18_5 < (t187.length : Int) := of_decide_eq_true (by first | (with_reducible assumption) | assumption)
                                                        obtain ⟨ad197, e197, hx197_0, hx197_1, hx197_2⟩ := at_T33 (Kd.R_reads' HO_15.out).2.2 x18_5 p197 q197
                                                        obtain rfl : ad196 = ad197 := (by injection e197)
                                                        replace p197 := eq_true p197
                                                        replace q197 := eq_true q197
                                                        have p198 : 0 ≤ (x18_5 : Int) := of_decide_eq_true (by first | (with_reducible assumption) | assumption)
                                                        have q198 : x18_5 < (t187.length : Int) := of_decide_eq_true (by first | (with_reducible assumption) | assumption)
                                                        obtain ⟨ad198, e198, hx198_0, hx198_1, hx198_2⟩ := at_T33 (Kd.R_reads' HO_15.out).2.2 x18_5 p198 q198
                                                        obtain rfl : ad196 = ad198 := (by injection e198)
                                                        replace p198 := eq_true p198
                                                        replace q198 := eq_true q198
                                                        go_wp2
                                                        repeat (go_quiet (fail); try go_wp2)
                                                        go_roundg kj32
                                                        case measure => have := HJ3.out; have := HJ10.out; have := HK3.out; have := HJ24.out; have := HK5.out; have := HJ32.out; omega
                                                        case rel => exact ⟨(wrap64 (x18_5 + 1)), (by first | rfl | (simp; done) | (simp [*]; done) | (congr 2; generalize ByteArray.toList _ = l_; cases l_ <;> rfl)), H', ⟨by have := HJ3.out; have := HJ10.out; have := HK3.out; have := HJ24.out; have := HK5.out; have := HJ32.out; omega⟩, ⟨by (with_reducible repeat (first | apply Kd.R_alloc | apply Kd.R_drewN | apply Kd.R_drew)); exact Kd.R_mono HO_7.out (fun _ hk => ⟨hk.1, hk.2.1⟩)⟩, ⟨by (with_reducible repeat (first | apply Kd.R_alloc | apply Kd.R_drewN | apply Kd.R_drew)); exact Kd.R_mono HO_10.out (fun _ hk => ⟨hk.1, hk.2.1⟩)⟩, ⟨by (with_reducible repeat (first | apply Kd.R_alloc | apply Kd.R_drewN | apply Kd.R_drew)); exact Kd.R_mono HO_15.out (fun _ hk => ⟨hk.1, hk.2.1⟩)⟩, ⟨by repeat (first | (with_reducible first | exact HB.out | apply below_alloc | apply pw_below_drewN | apply below_drew1 | refine below_set ?_ GE193.out) | exact HB.out)⟩⟩
                                                      · rw [if_neg c52] at H
                                                        have c52b0 : (((rd_T33 t187 x18_5).f2) == (wrap64 (x194002_32 + (wrap64 (x20_32 + (x13_3.size : Int)))))) = false := beq_eq_false_iff_ne.mpr c52
                                                        have c52b1 : (((rd_T33 t187 x18_5).f2) != (wrap64 (x194002_32 + (wrap64 (x20_32 + (x13_3.size : Int)))))) = true := bne_iff_ne.mpr c52
                                                        obtain rfl := Option.some.inj H
                                                        have hcz54_0 : wc.cell? ⟨gb193, 0, none⟩ = some (.int .i64 x194000_32) := (blk_cell BK193.out 0).trans rfl
                                                        have hcz54_1 : wc.cell? ⟨gb193, 1, none⟩ = some (.string x194001_32) := (blk_cell BK193.out 1).trans rfl
                                                        have hcz54_2 : wc.cell? ⟨gb193, 2, none⟩ = some (.int .i64 x194002_32) := (blk_cell BK193.out 2).trans rfl
                                                        have hfz54_0 := blk_frozen BK193.out 0
                                                        have hfz54_1 := blk_frozen BK193.out 1
                                                        have hfz54_2 := blk_frozen BK193.out 2
                                                        have p196 : 0 ≤ (x18_5 : Int) := of_decide_eq_true (by first | (with_reducible assumption) | assumption)
                                                        have q196 : x18_5 < (t187.length : Int) := of_decide_eq_true (by first | (with_reducible assumption) | assumption)
                                                        obtain ⟨ad196, e196, hx196_0, hx196_1, hx196_2⟩ := at_T33 (Kd.R_reads' HO_15.out).2.2 x18_5 p196 q196
                                                        cases e196
                                                        replace p196 := eq_true p196
                                                        replace q196 := eq_true q196
                                                        have p197 : 0 ≤ (x18_5 : Int) := of_decide_eq_true (by first | (with_reducible assumption) | assumption)
                                                        have q197 : x18_5 < (t187.length : Int) := of_decide_eq_true (by first | (with_reducible assumption) | assumption)
                                                        obtain ⟨ad197, e197, hx197_0, hx197_1, hx197_2⟩ := at_T33 (Kd.R_reads' HO_15.out).2.2 x18_5 p197 q197
                                                        obtain rfl : ad196 = ad197 := (by injection e197)
                                                        replace p197 := eq_true p197
                                                        replace q197 := eq_true q197
                                                        have p198 : 0 ≤ (x18_5 : Int) := of_decide_eq_true (by first | (with_reducible assumption) | assumption)
                                                        have q198 : x18_5 < (t187.length : Int) := of_decide_eq_true (by first | (with_reducible assumption) | assumption)
                                                        obtain ⟨ad198, e198, hx198_0, hx198_1, hx198_2⟩ := at_T33 (Kd.R_reads' HO_15.out).2.2 x18_5 p198 q198
                                                        obtain rfl : ad196 = ad198 := (by injection e198)
                                                        replace p198 := eq_true p198
                                                        replace q198 := eq_true q198
                                                        go_wp2
                                                        repeat (go_quiet (fail); try go_wp2)
                                                        go_ret
                                                        exact ⟨by first | rfl | (simp [errW_none, errW_some] <;> rfl) | (simp [*, errW_none, errW_some] <;> rfl), by repeat (first | (with_reducible first | exact HB.out | apply below_alloc | apply pw_below_drewN | apply below_drew1 | refine below_set ?_ GE193.out) | exact HB.out)⟩
                                                    · rw [if_neg c51] at H
                                                      have c51b0 : (((rd_T33 t187 x18_5).f1).toList == x194001_32.toList) = false := beq_eq_false_iff_ne.mpr c51
                                                      have c51b1 : (((rd_T33 t187 x18_5).f1).toList != x194001_32.toList) = true := bne_iff_ne.mpr c51
                                                      obtain rfl := Option.some.inj H
                                                      have hcz55_0 : wc.cell? ⟨gb193, 0, none⟩ = some (.int .i64 x194000_32) := (blk_cell BK193.out 0).trans rfl
                                                      have hcz55_1 : wc.cell? ⟨gb193, 1, none⟩ = some (.string x194001_32) := (blk_cell BK193.out 1).trans rfl
                                                      have hcz55_2 : wc.cell? ⟨gb193, 2, none⟩ = some (.int .i64 x194002_32) := (blk_cell BK193.out 2).trans rfl
                                                      have hfz55_0 := blk_frozen BK193.out 0
                                                      have hfz55_1 := blk_frozen BK193.out 1
                                                      have hfz55_2 := blk_frozen BK193.out 2
                                                      have p196 : 0 ≤ (x18_5 : Int) := of_decide_eq_true (by first | (with_reducible assumption) | assumption)
                                                      have q196 : x18_5 < (t187.length : Int) := of_decide_eq_true (by first | (with_reducible assumption) | assumption)
                                                      obtain ⟨ad196, e196, hx196_0, hx196_1, hx196_2⟩ := at_T33 (Kd.R_reads' HO_15.out).2.2 x18_5 p196 q196
                                                      cases e196
                                                      replace p196 := eq_true p196
                                                      replace q196 := eq_true q196
                                                      have p197 : 0 ≤ (x18_5 : Int) := of_decide_eq_true (by first | (with_reducible assumption) | assumption)
                                                      have q197 : x18_5 < (t187.length : Int) := of_decide_eq_true (by first | (with_reducible assumption) | assumption)
                                                      obtain ⟨ad197, e197, hx197_0, hx197_1, hx197_2⟩ := at_T33 (Kd.R_reads' HO_15.out).2.2 x18_5 p197 q197
                                                      obtain rfl : ad196 = ad197 := (by injection e197)
                                                      replace p197 := eq_true p197
                                                      replace q197 := eq_true q197
                                                      go_wp2
                                                      repeat (go_quiet (fail); try go_wp2)
                                                      go_ret
                                                      exact ⟨by first | rfl | (simp [errW_none, errW_some] <;> rfl) | (simp [*, errW_none, errW_some] <;> rfl), by repeat (first | (with_reducible first | exact HB.out | apply below_alloc | apply pw_below_drewN | apply below_drew1 | refine below_set ?_ GE193.out) | exact HB.out)⟩
                                                  · rw [if_neg c50] at H
                                                    have c50b0 : (((rd_T33 t187 x18_5).f0) == x194000_32) = false := beq_eq_false_iff_ne.mpr c50
                                                    have c50b1 : (((rd_T33 t187 x18_5).f0) != x194000_32) = true := bne_iff_ne.mpr c50
                                                    obtain rfl := Option.some.inj H
                                                    have hcz56_0 : wc.cell? ⟨gb193, 0, none⟩ = some (.int .i64 x194000_32) := (blk_cell BK193.out 0).trans rfl
                                                    have hcz56_1 : wc.cell? ⟨gb193, 1, none⟩ = some (.string x194001_32) := (blk_cell BK193.out 1).trans rfl
                                                    have hcz56_2 : wc.cell? ⟨gb193, 2, none⟩ = some (.int .i64 x194002_32) := (blk_cell BK193.out 2).trans rfl
                                                    have hfz56_0 := blk_frozen BK193.out 0
                                                    have hfz56_1 := blk_frozen BK193.out 1
                                                    have hfz56_2 := blk_frozen BK193.out 2
                                                    have p196 : 0 ≤ (x18_5 : Int) := of_decide_eq_true (by first | (with_reducible assumption) | assumption)
                                                    have q196 : x18_5 < (t187.length : Int) := of_decide_eq_true (by first | (with_reducible assumption) | assumption)
                                                    obtain ⟨ad196, e196, hx196_0, hx196_1, hx196_2⟩ := at_T33 (Kd.R_reads' HO_15.out).2.2 x18_5 p196 q196
                                                    cases e196
                                                    replace p196 := eq_true p196
                                                    replace q196 := eq_true q196
                                                    go_wp2
                                                    repeat (go_quiet (fail); try go_wp2)
                                                    go_ret
                                                    exact ⟨by first | rfl | (simp [errW_none, errW_some] <;> rfl) | (simp [*, errW_none, errW_some] <;> rfl), by repeat (first | (with_reducible first | exact HB.out | apply below_alloc | apply pw_below_drewN | apply below_drew1 | refine below_set ?_ GE193.out) | exact HB.out)⟩
                                                · rw [if_neg c49] at H
                                                  exact absurd H (by simp)
                                              · rw [if_neg c48] at H
                                                exact absurd H (by simp)
                                            · rw [if_neg c47] at H
                                              have c47b0 : (x194000_32 == 4) = false := beq_eq_false_iff_ne.mpr c47
                                              have c47b1 : (x194000_32 != 4) = true := bne_iff_ne.mpr c47
                                              by_cases c57 : 0 ≤ x18_5
                                              · rw [if_pos c57] at H
                                                have c57b0 : decide (0 ≤ x18_5) = true := decide_eq_true c57
                                                clear c57
                                                by_cases c58 : x18_5 < (t187.length : Int)
                                                · rw [if_pos c58] at H
                                                  have c58b0 : decide (x18_5 < (t187.length : Int)) = true := decide_eq_true c58
                                                  clear c58
                                                  by_cases c59 : ((rd_T33 t187 x18_5).f0) = x194000_32
                                                  · rw [if_pos c59] at H
                                                    have c59b0 : (((rd_T33 t187 x18_5).f0) == x194000_32) = true := beq_iff_eq.mpr c59
                                                    have c59b1 : (((rd_T33 t187 x18_5).f0) != x194000_32) = false := bne_eq_false_iff_eq.mpr c59
                                                    clear c59
                                                    by_cases c60 : ((rd_T33 t187 x18_5).f1).toList = x194001_32.toList
                                                    · rw [if_pos c60] at H
                                                      have c60b0 : (((rd_T33 t187 x18_5).f1).toList == x194001_32.toList) = true := beq_iff_eq.mpr c60
                                                      have c60b1 : (((rd_T33 t187 x18_5).f1).toList != x194001_32.toList) = false := bne_eq_false_iff_eq.mpr c60
                                                      clear c60
                                                      by_cases c61 : ((rd_T33 t187 x18_5).f2) = (wrap64 (x194002_32 + x20_32))
                                                      · rw [if_pos c61] at H
                                                        have c61b0 : (((rd_T33 t187 x18_5).f2) == (wrap64 (x194002_32 + x20_32))) = true := beq_iff_eq.mpr c61
                                                        have c61b1 : (((rd_T33 t187 x18_5).f2) != (wrap64 (x194002_32 + x20_32))) = false := bne_eq_false_iff_eq.mpr c61
                                                        clear c61
                                                        have H' := Aside0.mk H
                                                        clear H
                                                        have hcz62_0 : wc.cell? ⟨gb193, 0, none⟩ = some (.int .i64 x194000_32) := (blk_cell BK193.out 0).trans rfl
                                                        have hcz62_1 : wc.cell? ⟨gb193, 1, none⟩ = some (.string x194001_32) := (blk_cell BK193.out 1).trans rfl
                                                        have hcz62_2 : wc.cell? ⟨gb193, 2, none⟩ = some (.int .i64 x194002_32) := (blk_cell BK193.out 2).trans rfl
                                                        have hfz62_0 := blk_frozen BK193.out 0
                                                        have hfz62_1 := blk_frozen BK193.out 1
                                                        have hfz62_2 := blk_frozen BK193.out 2
                                                        have p199 : 0 ≤ (x18_5 : Int) := of_decide_eq_true (by first | (with_reducible assumption) | assumption)
                                                        have q199 : x18_5 < (t187.length : Int) := of_decide_eq_true (by first | (with_reducible assumption) | assumption)
                                                        obtain ⟨ad199, e199, hx199_0, hx199_1, hx199_2⟩ := at_T33 (Kd.R_reads' HO_15.out).2.2 x18_5 p199 q199
                                                        cases e199
                                                        replace p199 := eq_true p199
                                                        replace q199 := eq_true q199
                                                        have p200 : 0 ≤ (x18_5 : Int) := of_decide_eq_true (by first | (with_reducible assumption) | assumption)
                                                        have q200 : x18_5 < (t187.length : Int) := of_decide_eq_true (by first | (with_reducible assumption) | assumption)
                                                        obtain ⟨ad200, e200, hx200_0, hx200_1, hx200_2⟩ := at_T33 (Kd.R_reads' HO_15.out).2.2 x18_5 p200 q200
                                                        obtain rfl : ad199 = ad200 := (by injection e200)
                                                        replace p200 := eq_true p200
                                                        replace q200 := eq_true q200
                                                        have p201 : 0 ≤ (x18_5 : Int) := of_decide_eq_true (by first | (with_reducible assumption) | assumption)
                                                        have q201 : x18_5 < (t187.length : Int) := of_decide_eq_true (by first | (with_reducible assumption) | assumption)
                                                        obtain ⟨ad201, e201, hx201_0, hx201_1, hx201_2⟩ := at_T33 (Kd.R_reads' HO_15.out).2.2 x18_5 p201 q201
                                                        obtain rfl : ad199 = ad201 := (by injection e201)
                                                        replace p201 := eq_true p201
                                                        replace q201 := eq_true q201
                                                        go_wp2
                                                        repeat (go_quiet (fail); try go_wp2)
                                                        go_roundg kj32
                                                        case measure => have := HJ3.out; have := HJ10.out; have := HK3.out; have := HJ24.out; have := HK5.out; have := HJ32.out; omega
                                                        case rel => exact ⟨(wrap64 (x18_5 + 1)), (by first | rfl | (simp; done) | (simp [*]; done) | (congr 2; generalize ByteArray.toList _ = l_; cases l_ <;> rfl)), H', ⟨by have := HJ3.out; have := HJ10.out; have := HK3.out; have := HJ24.out; have := HK5.out; have := HJ32.out; omega⟩, ⟨by (with_reducible repeat (first | apply Kd.R_alloc | apply Kd.R_drewN | apply Kd.R_drew)); exact Kd.R_mono HO_7.out (fun _ hk => ⟨hk.1, hk.2.1⟩)⟩, ⟨by (with_reducible repeat (first | apply Kd.R_alloc | apply Kd.R_drewN | apply Kd.R_drew)); exact Kd.R_mono HO_10.out (fun _ hk => ⟨hk.1, hk.2.1⟩)⟩, ⟨by (with_reducible repeat (first | apply Kd.R_alloc | apply Kd.R_drewN | apply Kd.R_drew)); exact Kd.R_mono HO_15.out (fun _ hk => ⟨hk.1, hk.2.1⟩)⟩, ⟨by repeat (first | (with_reducible first | exact HB.out | apply below_alloc | apply pw_below_drewN | apply below_drew1 | refine below_set ?_ GE193.out) | exact HB.out)⟩⟩
                                                      · rw [if_neg c61] at H
                                                        have c61b0 : (((rd_T33 t187 x18_5).f2) == (wrap64 (x194002_32 + x20_32))) = false := beq_eq_false_iff_ne.mpr c61
                                                        have c61b1 : (((rd_T33 t187 x18_5).f2) != (wrap64 (x194002_32 + x20_32))) = true := bne_iff_ne.mpr c61
                                                        obtain rfl := Option.some.inj H
                                                        have hcz63_0 : wc.cell? ⟨gb193, 0, none⟩ = some (.int .i64 x194000_32) := (blk_cell BK193.out 0).trans rfl
                                                        have hcz63_1 : wc.cell? ⟨gb193, 1, none⟩ = some (.string x194001_32) := (blk_cell BK193.out 1).trans rfl
                                                        have hcz63_2 : wc.cell? ⟨gb193, 2, none⟩ = some (.int .i64 x194002_32) := (blk_cell BK193.out 2).trans rfl
                                                        have hfz63_0 := blk_frozen BK193.out 0
                                                        have hfz63_1 := blk_frozen BK193.out 1
                                                        have hfz63_2 := blk_frozen BK193.out 2
                                                        have p199 : 0 ≤ (x18_5 : Int) := of_decide_eq_true (by first | (with_reducible assumption) | assumption)
                                                        have q199 : x18_5 < (t187.length : Int) := of_decide_eq_true (by first | (with_reducible assumption) | assumption)
                                                        obtain ⟨ad199, e199, hx199_0, hx199_1, hx199_2⟩ := at_T33 (Kd.R_reads' HO_15.out).2.2 x18_5 p199 q199
                                                        cases e199
                                                        replace p199 := eq_true p199
                                                        replace q199 := eq_true q199
                                                        have p200 : 0 ≤ (x18_5 : Int) := of_decide_eq_true (by first | (with_reducible assumption) | assumption)
                                                        have q200 : x18_5 < (t187.length : Int) := of_decide_eq_true (by first | (with_reducible assumption) | assumption)
                                                        obtain ⟨ad200, e200, hx200_0, hx200_1, hx200_2⟩ := at_T33 (Kd.R_reads' HO_15.out).2.2 x18_5 p200 q200
                                                        obtain rfl : ad199 = ad200 := (by injection e200)
                                                        replace p200 := eq_true p200
                                                        replace q200 := eq_true q200
                                                        have p201 : 0 ≤ (x18_5 : Int) := of_decide_eq_true (by first | (with_reducible assumption) | assumption)
                                                        have q201 : x18_5 < (t187.length : Int) := of_decide_eq_true (by first | (with_reducible assumption) | assumption)
                                                        obtain ⟨ad201, e201, hx201_0, hx201_1, hx201_2⟩ := at_T33 (Kd.R_reads' HO_15.out).2.2 x18_5 p201 q201
                                                        obtain rfl : ad199 = ad201 := (by injection e201)
                                                        replace p201 := eq_true p201
                                                        replace q201 := eq_true q201
                                                        go_wp2
                                                        repeat (go_quiet (fail); try go_wp2)
                                                        go_ret
                                                        exact ⟨by first | rfl | (simp [errW_none, errW_some] <;> rfl) | (simp [*, errW_none, errW_some] <;> rfl), by repeat (first | (with_reducible first | exact HB.out | apply below_alloc | apply pw_below_drewN | apply below_drew1 | refine below_set ?_ GE193.out) | exact HB.out)⟩
                                                    · rw [if_neg c60] at H
                                                      have c60b0 : (((rd_T33 t187 x18_5).f1).toList == x194001_32.toList) = false := beq_eq_false_iff_ne.mpr c60
                                                      have c60b1 : (((rd_T33 t187 x18_5).f1).toList != x194001_32.toList) = true := bne_iff_ne.mpr c60
                                                      obtain rfl := Option.some.inj H
                                                      have hcz64_0 : wc.cell? ⟨gb193, 0, none⟩ = some (.int .i64 x194000_32) := (blk_cell BK193.out 0).trans rfl
                                                      have hcz64_1 : wc.cell? ⟨gb193, 1, none⟩ = some (.string x194001_32) := (blk_cell BK193.out 1).trans rfl
                                                      have hcz64_2 : wc.cell? ⟨gb193, 2, none⟩ = some (.int .i64 x194002_32) := (blk_cell BK193.out 2).trans rfl
                                                      have hfz64_0 := blk_frozen BK193.out 0
                                                      have hfz64_1 := blk_frozen BK193.out 1
                                                      have hfz64_2 := blk_frozen BK193.out 2
                                                      have p199 : 0 ≤ (x18_5 : Int) := of_decide_eq_true (by first | (with_reducible assumption) | assumption)
                                                      have q199 : x18_5 < (t187.length : Int) := of_decide_eq_true (by first | (with_reducible assumption) | assumption)
                                                      obtain ⟨ad199, e199, hx199_0, hx199_1, hx199_2⟩ := at_T33 (Kd.R_reads' HO_15.out).2.2 x18_5 p199 q199
                                                      cases e199
                                                      replace p199 := eq_true p199
                                                      replace q199 := eq_true q199
                                                      have p200 : 0 ≤ (x18_5 : Int) := of_decide_eq_true (by first | (with_reducible assumption) | assumption)
                                                      have q200 : x18_5 < (t187.length : Int) := of_decide_eq_true (by first | (with_reducible assumption) | assumption)
                                                      obtain ⟨ad200, e200, hx200_0, hx200_1, hx200_2⟩ := at_T33 (Kd.R_reads' HO_15.out).2.2 x18_5 p200 q200
                                                      obtain rfl : ad199 = ad200 := (by injection e200)
                                                      replace p200 := eq_true p200
                                                      replace q200 := eq_true q200
                                                      go_wp2
                                                      repeat (go_quiet (fail); try go_wp2)
                                                      go_ret
                                                      exact ⟨by first | rfl | (simp [errW_none, errW_some] <;> rfl) | (simp [*, errW_none, errW_some] <;> rfl), by repeat (first | (with_reducible first | exact HB.out | apply below_alloc | apply pw_below_drewN | apply below_drew1 | refine below_set ?_ GE193.out) | exact HB.out)⟩
                                                  · rw [if_neg c59] at H
                                                    have c59b0 : (((rd_T33 t187 x18_5).f0) == x194000_32) = false := beq_eq_false_iff_ne.mpr c59
                                                    have c59b1 : (((rd_T33 t187 x18_5).f0) != x194000_32) = true := bne_iff_ne.mpr c59
                                                    obtain rfl := Option.some.inj H
                                                    have hcz65_0 : wc.cell? ⟨gb193, 0, none⟩ = some (.int .i64 x194000_32) := (blk_cell BK193.out 0).trans rfl
                                                    have hcz65_1 : wc.cell? ⟨gb193, 1, none⟩ = some (.string x194001_32) := (blk_cell BK193.out 1).trans rfl
                                                    have hcz65_2 : wc.cell? ⟨gb193, 2, none⟩ = some (.int .i64 x194002_32) := (blk_cell BK193.out 2).trans rfl
                                                    have hfz65_0 := blk_frozen BK193.out 0
                                                    have hfz65_1 := blk_frozen BK193.out 1
                                                    have hfz65_2 := blk_frozen BK193.out 2
                                                    have p199 : 0 ≤ (x18_5 : Int) := of_decide_eq_true (by first | (with_reducible assumption) | assumption)
                                                    have q199 : x18_5 < (t187.length : Int) := of_decide_eq_true (by first | (with_reducible assumption) | assumption)
                                                    obtain ⟨ad199, e199, hx199_0, hx199_1, hx199_2⟩ := at_T33 (Kd.R_reads' HO_15.out).2.2 x18_5 p199 q199
                                                    cases e199
                                                    replace p199 := eq_true p199
                                                    replace q199 := eq_true q199
                                                    go_wp2
                                                    repeat (go_quiet (fail); try go_wp2)
                                                    go_ret
                                                    exact ⟨by first | rfl | (simp [errW_none, errW_some] <;> rfl) | (simp [*, errW_none, errW_some] <;> rfl), by repeat (first | (with_reducible first | exact HB.out | apply below_alloc | apply pw_below_drewN | apply below_drew1 | refine below_set ?_ GE193.out) | exact HB.out)⟩
                                                · rw [if_neg c58] at H
                                                  exact absurd H (by simp)
                                              · rw [if_neg c57] at H
                                                exact absurd H (by simp)
                                      · rw [if_neg c32] at H
                                        have c32b0 : decide (x18_5 < (t187.length : Int)) = false := decide_eq_false c32
                                        clear c32
                                        replace H := Option.bind_eq_some_iff.mp H
                                        obtain ⟨t192, A660, H⟩ := H
                                        replace H : (some t192) = some r := H
                                        have A66 := Aside0.mk A660
                                        clear A660
                                        obtain rfl := Option.some.inj H
                                        obtain ⟨Ao67, co67, eo67⟩ := Kd.R_slice HO_15.out
                                        subst eo67
                                        go_wp2_with (first | (go_at_call 8; (with_reducible refine (casementlaw18_awake.calls k5  t192 _ A66.out).mono ?_); rintro e w68 ⟨rfl, hb⟩; have n0_ := Aside0.mk (Kd.R_below (by (with_reducible repeat (first | apply Kd.R_alloc | apply Kd.R_drewN | apply Kd.R_drew)); exact HO_7.out) hb); have n1_ := Aside0.mk (Kd.R_below (by (with_reducible repeat (first | apply Kd.R_alloc | apply Kd.R_drewN | apply Kd.R_drew)); exact HO_10.out) hb); have n2_ := Aside0.mk (Kd.R_below (by (with_reducible repeat (first | apply Kd.R_alloc | apply Kd.R_drewN | apply Kd.R_drew)); exact HO_15.out) hb); have n3_ := Aside0.mk (below_step (by repeat (first | (with_reducible first | exact HB.out | apply below_alloc | apply pw_below_drewN | apply below_drew1) | exact HB.out)) hb); clear HO_7; clear HO_10; clear HO_15; clear HB; have HO_7 := n0_; have HO_10 := n1_; have HO_15 := n2_; have HB := n3_; clear n0_ n1_ n2_ n3_; (try clear hb); (try clear hb2); (try clear hk); (try clear hi)))
                                        repeat (go_quiet (first | (go_at_call 8; (with_reducible refine (casementlaw18_awake.calls k5  t192 _ A66.out).mono ?_); rintro e w68 ⟨rfl, hb⟩; have n0_ := Aside0.mk (Kd.R_below (by (with_reducible repeat (first | apply Kd.R_alloc | apply Kd.R_drewN | apply Kd.R_drew)); exact HO_7.out) hb); have n1_ := Aside0.mk (Kd.R_below (by (with_reducible repeat (first | apply Kd.R_alloc | apply Kd.R_drewN | apply Kd.R_drew)); exact HO_10.out) hb); have n2_ := Aside0.mk (Kd.R_below (by (with_reducible repeat (first | apply Kd.R_alloc | apply Kd.R_drewN | apply Kd.R_drew)); exact HO_15.out) hb); have n3_ := Aside0.mk (below_step (by repeat (first | (with_reducible first | exact HB.out | apply below_alloc | apply pw_below_drewN | apply below_drew1) | exact HB.out)) hb); clear HO_7; clear HO_10; clear HO_15; clear HB; have HO_7 := n0_; have HO_10 := n1_; have HO_15 := n2_; have HB := n3_; clear n0_ n1_ n2_ n3_; (try clear hb); (try clear hb2); (try clear hk); (try clear hi))); try go_wp2_with (first | (go_at_call 8; (with_reducible refine (casementlaw18_awake.calls k5  t192 _ A66.out).mono ?_); rintro e w68 ⟨rfl, hb⟩; have n0_ := Aside0.mk (Kd.R_below (by (with_reducible repeat (first | apply Kd.R_alloc | apply Kd.R_drewN | apply Kd.R_drew)); exact HO_7.out) hb); have n1_ := Aside0.mk (Kd.R_below (by (with_reducible repeat (first | apply Kd.R_alloc | apply Kd.R_drewN | apply Kd.R_drew)); exact HO_10.out) hb); have n2_ := Aside0.mk (Kd.R_below (by (with_reducible repeat (first | apply Kd.R_alloc | apply Kd.R_drewN | apply Kd.R_drew)); exact HO_15.out) hb); have n3_ := Aside0.mk (below_step (by repeat (first | (with_reducible first | exact HB.out | apply below_alloc | apply pw_below_drewN | apply below_drew1) | exact HB.out)) hb); clear HO_7; clear HO_10; clear HO_15; clear HB; have HO_7 := n0_; have HO_10 := n1_; have HO_15 := n2_; have HB := n3_; clear n0_ n1_ n2_ n3_; (try clear hb); (try clear hb2); (try clear hk); (try clear hi))))
                                        go_ret
                                        exact ⟨by first | rfl | (simp [errW_none, errW_some] <;> rfl) | (simp [*, errW_none, errW_some] <;> rfl), by repeat (first | (with_reducible first | exact HB.out | apply below_alloc | apply pw_below_drewN | apply below_drew1) | exact HB.out)⟩
                          · rw [if_neg c23] at H
                            exact absurd H (by simp)
                        · rw [if_neg c22] at H
                          exact absurd H (by simp)
                      · rw [if_neg c21] at H
                        exact absurd H (by simp)
                    · rw [if_neg c20] at H
                      exact absurd H (by simp)

/-- THE ONE PURE STATEMENT of casementlaw18_LexBlanks: yours. -/
def casementlaw18_LexBlanks.Pure : Prop := ∀ (a0 : ByteArray) (a1 : ByteArray) (a2 : Int), a0.size ≤ 140737488351232 → a1.size ≤ 140737488351232 → (Lit.int .u8 a2).wf = true → ∃ k, casementlaw18_LexBlanks.f k a0 a1 a2 = some true
theorem casementlaw18_LexBlanks.walk (P : casementlaw18_LexBlanks.Pure) (a0 : ByteArray) (a1 : ByteArray) (a2 : Int) (w : World) (w0 : a0.size ≤ 140737488351232) (w1 : a1.size ≤ 140737488351232) (w2 : (Lit.int .u8 a2).wf = true) :
    Calls Try.prog 4 #[.string a0, .string a1, .int .u8 a2] w fun e w' => e = .returned (.bool true) ∧ Below w.heap.size w w' := by
  obtain ⟨k, h⟩ := P a0 a1 a2 w0 w1 w2
  refine (casementlaw18_LexBlanks.calls k a0 a1 a2 true w h).mono ?_
  rintro e w' ⟨rfl, hd⟩
  exact ⟨rfl, hd⟩

end Go.Proofs.Ythlncjiapjahaaa.P
