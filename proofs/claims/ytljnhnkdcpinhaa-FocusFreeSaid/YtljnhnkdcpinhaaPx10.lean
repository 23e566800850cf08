-- WRITTEN by wip/tools/myprint.py of this session, a program over the kit's print
import Derived.Test.YtljnhnkdcpinhaaPx0
import Derived.Test.YtljnhnkdcpinhaaPx2
import Derived.Test.YtljnhnkdcpinhaaPx3
import Derived.Test.YtljnhnkdcpinhaaExtCheck
import Derived.Test.YtljnhnkdcpinhaaExtOwnersB
namespace Go.Proofs.Ytljnhnkdcpinhaa.P
open Go.RowKit Go.Proofs.YtljnhnkdcpinhaaW.PrintWords Go.Proofs.YtljnhnkdcpinhaaW.PrintLast Go.Proofs.YtljnhnkdcpinhaaW.PrintMore
attribute [local go_sem] max2_int min2_int max_two min_two max_three min_three max_four min_four   -- for this text's walks alone
set_option linter.unusedVariables false
set_option linter.unusedSimpArgs false

/-! ### casementlaw17_FocusFree: function 6 -/
mutual
def casementlaw17_FocusFree.j0 : Nat → List (S35) → List Int → Int → Bool → Option (Bool)
  | 0, _, _, _, _ => none
  | k + 1, x0, x1, x2, x25 => if x25 = true then ((casementlaw17_awake.f k).bind fun t265 => (some t265)) else ((focus_Choose.f k x0 x1).bind fun t266 => (if (x0.length : Int) = 0 then (if t266 = 0 then ((casementlaw17_awake.f k).bind fun t267 => (some t267)) else (some false)) else ((casementref16_Place.f k x0 t266).bind fun t268 => (if t268 < 0 then (casementlaw17_FocusFree.j1 k x0 x1 x2 t266 true) else ((focus_Modal.f k x0 t266).bind fun t269 => (casementlaw17_FocusFree.j1 k x0 x1 x2 t266 (t269 != t266)))))))
def casementlaw17_FocusFree.j1 : Nat → List (S35) → List Int → Int → Int → Bool → Option (Bool)
  | 0, _, _, _, _, _ => none
  | k + 1, x0, x1, x2, x7, x48 => if x48 = true then (some false) else ((order_Owners.f x0).bind fun t270 => (casementlaw17_FocusFree.l0 k x0 x1 x2 x7 t270 0))
def casementlaw17_FocusFree.l0 : Nat → List (S35) → List Int → Int → Int → List Int → Int → Option (Bool)
  | 0, _, _, _, _, _, _ => none
  | k + 1, x0, x1, x2, x7, x8, x9 => if x9 < (x0.length : Int) then (if 0 ≤ x9 then (if (rd_T35 x0 x9).f3 = true then (if x9 < (x8.length : Int) then (if (rd x8 x9) = x7 then (some false) else (casementlaw17_FocusFree.l0 k x0 x1 x2 x7 x8 (wrap64 (x9 + 1)))) else (none)) else (casementlaw17_FocusFree.l0 k x0 x1 x2 x7 x8 (wrap64 (x9 + 1)))) else (none)) else ((focus_After.f k x0 x1 x2).bind fun t275 => (if (x0.length : Int) = 1 then (if 0 < (x0.length : Int) then (casementlaw17_FocusFree.j3 k x0 x2 t275 (((rd_T35 x0 0).f0) == x2)) else (none)) else (casementlaw17_FocusFree.j3 k x0 x2 t275 false)))
def casementlaw17_FocusFree.j3 : Nat → List (S35) → Int → Int → Bool → Option (Bool)
  | 0, _, _, _, _ => none
  | k + 1, x0, x2, x10, x84 => if x84 = true then (if x10 = 0 then ((casementlaw17_awake.f k).bind fun t277 => (some t277)) else (some false)) else (if x10 = x2 then (some false) else ((casementref16_Place.f k x0 x10).bind fun t278 => (if t278 ≥ 0 then ((casementlaw17_awake.f k).bind fun t279 => (some t279)) else (some false))))
end
def casementlaw17_FocusFree.f (k : Nat) (l0 : List (S35)) (l1 : List Int) (a2 : Int) : Option (Bool) := if (l0.length : Int) > 60 then (casementlaw17_FocusFree.j0 k l0 l1 a2 true) else ((order_Check.f l0).bind fun t264 => (if t264 = 0 then (casementlaw17_FocusFree.j0 k l0 l1 a2 ((l1.length : Int) != (l0.length : Int))) else (casementlaw17_FocusFree.j0 k l0 l1 a2 true)))
theorem casementlaw17_FocusFree.mono_l : ∀ k, (∀ y0 y1 y2 y3, LeO (casementlaw17_FocusFree.j0 k y0 y1 y2 y3) (casementlaw17_FocusFree.j0 (k + 1) y0 y1 y2 y3)) ∧ (∀ y0 y1 y2 y3 y4, LeO (casementlaw17_FocusFree.j1 k y0 y1 y2 y3 y4) (casementlaw17_FocusFree.j1 (k + 1) y0 y1 y2 y3 y4)) ∧ (∀ y0 y1 y2 y3 y4 y5, LeO (casementlaw17_FocusFree.l0 k y0 y1 y2 y3 y4 y5) (casementlaw17_FocusFree.l0 (k + 1) y0 y1 y2 y3 y4 y5)) ∧ (∀ y0 y1 y2 y3, LeO (casementlaw17_FocusFree.j3 k y0 y1 y2 y3) (casementlaw17_FocusFree.j3 (k + 1) y0 y1 y2 y3))
  | 0 => ⟨fun _ _ _ _ r h => by simp [casementlaw17_FocusFree.j0] at h, fun _ _ _ _ _ r h => by simp [casementlaw17_FocusFree.j1] at h, fun _ _ _ _ _ _ r h => by simp [casementlaw17_FocusFree.l0] at h, fun _ _ _ _ r h => by simp [casementlaw17_FocusFree.j3] at h⟩
  | k + 1 => by
    obtain ⟨ih0, ih1, ih2, ih3⟩ := casementlaw17_FocusFree.mono_l k
    refine ⟨?_, ?_, ?_, ?_⟩
    · intro y0 y1 y2 y3
      unfold casementlaw17_FocusFree.j0
      repeat' first
      | (with_reducible exact ih0 _ _ _ _)
      | (with_reducible exact ih1 _ _ _ _ _)
      | (with_reducible exact ih2 _ _ _ _ _ _)
      | (with_reducible exact ih3 _ _ _ _)
      | (with_reducible exact casementlaw17_awake.mono _)
      | (with_reducible exact casementref16_Place.mono _ _ _)
      | (with_reducible exact focus_After.mono _ _ _ _)
      | (with_reducible exact focus_Choose.mono _ _ _)
      | (with_reducible exact focus_Modal.mono _ _ _)
      | (with_reducible exact LeO.refl _)
      | (with_reducible exact LeO.none _)
      | (with_reducible refine LeO.ite ?_ ?_)
      | (with_reducible refine LeO.bind ?_ (fun _ => ?_))
      | exact ih0 _ _ _ _
      | exact ih1 _ _ _ _ _
      | exact ih2 _ _ _ _ _ _
      | exact ih3 _ _ _ _
      | exact casementlaw17_awake.mono _
      | exact casementref16_Place.mono _ _ _
      | exact focus_After.mono _ _ _ _
      | exact focus_Choose.mono _ _ _
      | exact focus_Modal.mono _ _ _
      | exact LeO.none _
      | refine LeO.ite ?_ ?_
      | refine LeO.bind ?_ (fun _ => ?_)
    · intro y0 y1 y2 y3 y4
      unfold casementlaw17_FocusFree.j1
      repeat' first
      | (with_reducible exact ih0 _ _ _ _)
      | (with_reducible exact ih1 _ _ _ _ _)
      | (with_reducible exact ih2 _ _ _ _ _ _)
      | (with_reducible exact ih3 _ _ _ _)
      | (with_reducible exact casementlaw17_awake.mono _)
      | (with_reducible exact casementref16_Place.mono _ _ _)
      | (with_reducible exact focus_After.mono _ _ _ _)
      | (with_reducible exact focus_Choose.mono _ _ _)
      | (with_reducible exact focus_Modal.mono _ _ _)
      | (with_reducible exact LeO.refl _)
      | (with_reducible exact LeO.none _)
      | (with_reducible refine LeO.ite ?_ ?_)
      | (with_reducible refine LeO.bind ?_ (fun _ => ?_))
      | exact ih0 _ _ _ _
      | exact ih1 _ _ _ _ _
      | exact ih2 _ _ _ _ _ _
      | exact ih3 _ _ _ _
      | exact casementlaw17_awake.mono _
      | exact casementref16_Place.mono _ _ _
      | exact focus_After.mono _ _ _ _
      | exact focus_Choose.mono _ _ _
      | exact focus_Modal.mono _ _ _
      | exact LeO.none _
      | refine LeO.ite ?_ ?_
      | refine LeO.bind ?_ (fun _ => ?_)
    · intro y0 y1 y2 y3 y4 y5
      unfold casementlaw17_FocusFree.l0
      repeat' first
      | (with_reducible exact ih0 _ _ _ _)
      | (with_reducible exact ih1 _ _ _ _ _)
      | (with_reducible exact ih2 _ _ _ _ _ _)
      | (with_reducible exact ih3 _ _ _ _)
      | (with_reducible exact casementlaw17_awake.mono _)
      | (with_reducible exact casementref16_Place.mono _ _ _)
      | (with_reducible exact focus_After.mono _ _ _ _)
      | (with_reducible exact focus_Choose.mono _ _ _)
      | (with_reducible exact focus_Modal.mono _ _ _)
      | (with_reducible exact LeO.refl _)
      | (with_reducible exact LeO.none _)
      | (with_reducible refine LeO.ite ?_ ?_)
      | (with_reducible refine LeO.bind ?_ (fun _ => ?_))
      | exact ih0 _ _ _ _
      | exact ih1 _ _ _ _ _
      | exact ih2 _ _ _ _ _ _
      | exact ih3 _ _ _ _
      | exact casementlaw17_awake.mono _
      | exact casementref16_Place.mono _ _ _
      | exact focus_After.mono _ _ _ _
      | exact focus_Choose.mono _ _ _
      | exact focus_Modal.mono _ _ _
      | exact LeO.none _
      | refine LeO.ite ?_ ?_
      | refine LeO.bind ?_ (fun _ => ?_)
    · intro y0 y1 y2 y3
      unfold casementlaw17_FocusFree.j3
      repeat' first
      | (with_reducible exact ih0 _ _ _ _)
      | (with_reducible exact ih1 _ _ _ _ _)
      | (with_reducible exact ih2 _ _ _ _ _ _)
      | (with_reducible exact ih3 _ _ _ _)
      | (with_reducible exact casementlaw17_awake.mono _)
      | (with_reducible exact casementref16_Place.mono _ _ _)
      | (with_reducible exact focus_After.mono _ _ _ _)
      | (with_reducible exact focus_Choose.mono _ _ _)
      | (with_reducible exact focus_Modal.mono _ _ _)
      | (with_reducible exact LeO.refl _)
      | (with_reducible exact LeO.none _)
      | (with_reducible refine LeO.ite ?_ ?_)
      | (with_reducible refine LeO.bind ?_ (fun _ => ?_))
      | exact ih0 _ _ _ _
      | exact ih1 _ _ _ _ _
      | exact ih2 _ _ _ _ _ _
      | exact ih3 _ _ _ _
      | exact casementlaw17_awake.mono _
      | exact casementref16_Place.mono _ _ _
      | exact focus_After.mono _ _ _ _
      | exact focus_Choose.mono _ _ _
      | exact focus_Modal.mono _ _ _
      | exact LeO.none _
      | refine LeO.ite ?_ ?_
      | refine LeO.bind ?_ (fun _ => ?_)
theorem casementlaw17_FocusFree.mono : ∀ a0 a1 a2 k, LeO (casementlaw17_FocusFree.f k a0 a1 a2) (casementlaw17_FocusFree.f (k + 1) a0 a1 a2) := by
  intro a0 a1 a2 k
  obtain ⟨ih0, ih1, ih2, ih3⟩ := casementlaw17_FocusFree.mono_l k
  unfold casementlaw17_FocusFree.f
  repeat' first
      | (with_reducible exact ih0 _ _ _ _)
      | (with_reducible exact ih1 _ _ _ _ _)
      | (with_reducible exact ih2 _ _ _ _ _ _)
      | (with_reducible exact ih3 _ _ _ _)
      | (with_reducible exact casementlaw17_awake.mono _)
      | (with_reducible exact casementref16_Place.mono _ _ _)
      | (with_reducible exact focus_After.mono _ _ _ _)
      | (with_reducible exact focus_Choose.mono _ _ _)
      | (with_reducible exact focus_Modal.mono _ _ _)
      | (with_reducible exact LeO.refl _)
      | (with_reducible exact LeO.none _)
      | (with_reducible refine LeO.ite ?_ ?_)
      | (with_reducible refine LeO.bind ?_ (fun _ => ?_))
      | exact ih0 _ _ _ _
      | exact ih1 _ _ _ _ _
      | exact ih2 _ _ _ _ _ _
      | exact ih3 _ _ _ _
      | exact casementlaw17_awake.mono _
      | exact casementref16_Place.mono _ _ _
      | exact focus_After.mono _ _ _ _
      | exact focus_Choose.mono _ _ _
      | exact focus_Modal.mono _ _ _
      | exact LeO.none _
      | refine LeO.ite ?_ ?_
      | refine LeO.bind ?_ (fun _ => ?_)
set_option maxHeartbeats 8000000 in
set_option maxRecDepth 100000 in
theorem casementlaw17_FocusFree.calls (k : Nat) (A0 : Option Addr) (c0 : Nat) (l0 : List (S35)) (A1 : Option Addr) (c1 : Nat) (l1 : List Int) (a2 : Int) (r : Bool) (w : World) (hr0 : Kd.C k35 w A0 l0.length l0) (hc0 : l0.length ≤ c0) (hr1 : Kd.C (Kd.int .i64) w A1 l1.length l1) (hc1 : l1.length ≤ c1) (h : casementlaw17_FocusFree.f k l0 l1 a2 = some r) :
    Calls Try.prog 6 #[.slice A0 l0.length c0, .slice A1 l1.length c1, .int .i64 a2] w fun e w' => e = .returned (.bool r) ∧ Below w.heap.size w w' := by
  have HR0 := Aside0.mk hr0
  have HC0 := Aside0.mk hc0
  clear hr0 hc0
  have HR1 := Aside0.mk hr1
  have HC1 := Aside0.mk hc1
  clear hr1 hc1
  have HB := Aside0.mk (Below.refl w.heap.size w)
  have H : (if (l0.length : Int) > 60 then (casementlaw17_FocusFree.j0 k l0 l1 a2 true) else ((order_Check.f l0).bind fun t264 => (if t264 = 0 then (casementlaw17_FocusFree.j0 k l0 l1 a2 ((l1.length : Int) != (l0.length : Int))) else (casementlaw17_FocusFree.j0 k l0 l1 a2 true)))) = some r := h
  clear h
  have HC4 := Aside0.mk H
  clear H
  go_enter Try.func6, Try.ntmps6
  go_upto_region 1 with (fail)
  go_cut [25] (fun v25 wc => ∃ (kq : Nat) (x25_3 : Bool), v25 = .bool x25_3 ∧ Aside0 (casementlaw17_FocusFree.j0 kq l0 l1 a2 x25_3 = some r) ∧ Aside0 (kq ≤ k) ∧ Aside0 (Below w.heap.size w wc))
  case first =>
    have H := HC4.out
    clear HC4
    by_cases c5 : (l0.length : Int) > 60
    · rw [if_pos c5] at H
      have c5b0 : decide (60 < (l0.length : Int)) = true := decide_eq_true c5
      have c5b1 : decide (60 < l0.length) = true := decide_eq_true (by omega)
      clear c5
      (first | rw [c5b0] | (simp only [i64_w, i32_w]; rw [c5b0]) | skip)
      have H' := Aside0.mk H
      clear H
      go_wp2
      go_meet
      case rel => exact ⟨_, (true), (by first | rfl | (simp; done) | (simp [*]; done) | (congr 2; generalize ByteArray.toList _ = l_; cases l_ <;> rfl)), H', ⟨by first | omega | exact Nat.le_refl _⟩, ⟨by repeat (first | (with_reducible first | exact HB.out | apply below_alloc | apply pw_below_drewN | apply below_drew1) | exact HB.out)⟩⟩
    · rw [if_neg c5] at H
      have c5b0 : decide (60 < (l0.length : Int)) = false := decide_eq_false c5
      have c5b1 : decide (60 < l0.length) = false := decide_eq_false (by omega)
      clear c5
      (first | rw [c5b0] | (simp only [i64_w, i32_w]; rw [c5b0]) | skip)
      replace H := Option.bind_eq_some_iff.mp H
      obtain ⟨t264, A60, H⟩ := H
      replace H : (if t264 = 0 then (casementlaw17_FocusFree.j0 k l0 l1 a2 ((l1.length : Int) != (l0.length : Int))) else (casementlaw17_FocusFree.j0 k l0 l1 a2 true)) = some r := H
      have A6 := Aside0.mk A60
      clear A60
      by_cases c7 : t264 = 0
      · rw [if_pos c7] at H
        have c7b0 : (t264 == 0) = true := beq_iff_eq.mpr c7
        have c7b1 : (t264 != 0) = false := bne_eq_false_iff_eq.mpr c7
        clear c7
        have H' := Aside0.mk H
        clear H
        go_wp2_with (first | (go_at_call 16; (with_reducible refine (order_Check.calls _ _ l0 t264 _ ?side1 ?side2 A6.out).mono ?_); (case side1 => repeat (first | exact (Kd.C_below HR0.out HB.out) | (with_reducible refine Kd.C_alloc ?_ _) | (with_reducible refine Kd.C_drewN ?_ _) | (with_reducible refine Kd.C_drew ?_))); (case side2 => exact HC0.out); rintro e w8 ⟨rfl, hb⟩; have n0_ := Aside0.mk (below_step (by repeat (first | (with_reducible first | exact HB.out | apply below_alloc | apply pw_below_drewN | apply below_drew1) | exact HB.out)) hb); clear HB; have HB := n0_; clear n0_; (try clear hb); (try clear hb2); (try clear hk); (try clear hi)))
        go_meet
        case rel => exact ⟨_, (((l1.length : Int) != (l0.length : Int))), (by first | rfl | (simp; done) | (simp [*]; done) | (congr 2; generalize ByteArray.toList _ = l_; cases l_ <;> rfl)), H', ⟨by first | omega | exact Nat.le_refl _⟩, ⟨by repeat (first | (with_reducible first | exact HB.out | apply below_alloc | apply pw_below_drewN | apply below_drew1) | exact HB.out)⟩⟩
      · rw [if_neg c7] at H
        have c7b0 : (t264 == 0) = false := beq_eq_false_iff_ne.mpr c7
        have c7b1 : (t264 != 0) = true := bne_iff_ne.mpr c7
        have H' := Aside0.mk H
        clear H
        go_wp2_with (first | (go_at_call 16; (with_reducible refine (order_Check.calls _ _ l0 t264 _ ?side1 ?side2 A6.out).mono ?_); (case side1 => repeat (first | exact (Kd.C_below HR0.out HB.out) | (with_reducible refine Kd.C_alloc ?_ _) | (with_reducible refine Kd.C_drewN ?_ _) | (with_reducible refine Kd.C_drew ?_))); (case side2 => exact HC0.out); rintro e w9 ⟨rfl, hb⟩; have n0_ := Aside0.mk (below_step (by repeat (first | (with_reducible first | exact HB.out | apply below_alloc | apply pw_below_drewN | apply below_drew1) | exact HB.out)) hb); clear HB; have HB := n0_; clear n0_; (try clear hb); (try clear hb2); (try clear hk); (try clear hi)))
        go_meet
        case rel => exact ⟨_, (true), (by first | rfl | (simp; done) | (simp [*]; done) | (congr 2; generalize ByteArray.toList _ = l_; cases l_ <;> rfl)), H', ⟨by first | omega | exact Nat.le_refl _⟩, ⟨by repeat (first | (with_reducible first | exact HB.out | apply below_alloc | apply pw_below_drewN | apply below_drew1) | exact HB.out)⟩⟩
  case rest =>
    clear HC4
    try clear c1
    try clear p2
    try clear c5
    try clear c5b0
    try clear c5b1
    try clear c6
    try clear c7
    try clear c7b0
    try clear c7b1
    obtain ⟨kq, x25_3, rfl, HA, HJ3, HB⟩ := hcut
    cases kq with
    | zero => exact absurd HA.out (by simp [casementlaw17_FocusFree.j0])
    | succ kj3 =>
      have H := HA.out
      clear HA
      simp only [casementlaw17_FocusFree.j0] at H
      by_cases c10 : x25_3 = true
      · subst c10
        have H1 : ((casementlaw17_awake.f kj3).bind fun t265 => (some t265)) = some r := by rw [if_pos rfl] at H; exact H
        clear H
        have H := H1
        clear H1
        replace H := Option.bind_eq_some_iff.mp H
        obtain ⟨t265, A110, H⟩ := H
        replace H : (some t265) = some r := H
        have A11 := Aside0.mk A110
        clear A110
        obtain rfl := Option.some.inj H
        go_wp2_with (first | ((with_reducible refine gate_callee (f := 9) rfl ?_); refine goesL_ (some 26) rfl rfl Try.func9 (by kernel_rfl) rfl #[] rfl (by (try simp only [List.map_toArray, List.map_cons, List.map_nil]); first | done | rfl | (simp only [List.length_drop, List.length_take]; rfl)) ?_; (with_reducible refine (casementlaw17_awake.calls kj3  t265 _ A11.out).mono ?_); rintro e w12 ⟨rfl, hb⟩; refine ⟨_, rfl, ?_⟩; have n0_ := Aside0.mk (below_step (by repeat (first | (with_reducible first | exact HB.out | apply below_alloc | apply pw_below_drewN | apply below_drew1) | exact HB.out)) hb); clear HB; have HB := n0_; clear n0_; (try clear hb); (try clear hb2); (try clear hk); (try clear hi)))
        go_ret
        exact ⟨by first | rfl | (simp [errW_none, errW_some] <;> rfl) | (simp [*, errW_none, errW_some] <;> rfl), by repeat (first | (with_reducible first | exact HB.out | apply below_alloc | apply pw_below_drewN | apply below_drew1) | exact HB.out)⟩
      · replace c10 := Bool.eq_false_iff.mpr c10
        subst c10
        have H1 : ((focus_Choose.f kj3 l0 l1).bind fun t266 => (if (l0.length : Int) = 0 then (if t266 = 0 then ((casementlaw17_awake.f kj3).bind fun t267 => (some t267)) else (some false)) else ((casementref16_Place.f kj3 l0 t266).bind fun t268 => (if t268 < 0 then (casementlaw17_FocusFree.j1 kj3 l0 l1 a2 t266 true) else ((focus_Modal.f kj3 l0 t266).bind fun t269 => (casementlaw17_FocusFree.j1 kj3 l0 l1 a2 t266 (t269 != t266))))))) = some r := by rw [if_neg (show ¬ (false = true) by decide)] at H; exact H
        clear H
        have H := H1
        clear H1
        replace H := Option.bind_eq_some_iff.mp H
        obtain ⟨t266, A130, H⟩ := H
        replace H : (if (l0.length : Int) = 0 then (if t266 = 0 then ((casementlaw17_awake.f kj3).bind fun t267 => (some t267)) else (some false)) else ((casementref16_Place.f kj3 l0 t266).bind fun t268 => (if t268 < 0 then (casementlaw17_FocusFree.j1 kj3 l0 l1 a2 t266 true) else ((focus_Modal.f kj3 l0 t266).bind fun t269 => (casementlaw17_FocusFree.j1 kj3 l0 l1 a2 t266 (t269 != t266)))))) = some r := H
        have A13 := Aside0.mk A130
        clear A130
        by_cases c14 : (l0.length : Int) = 0
        · rw [if_pos c14] at H
          have c14b0 : ((l0.length : Int) == 0) = true := beq_iff_eq.mpr c14
          have c14b1 : ((l0.length : Int) != 0) = false := bne_eq_false_iff_eq.mpr c14
          clear c14
          by_cases c15 : t266 = 0
          · rw [if_pos c15] at H
            have c15b0 : (t266 == 0) = true := beq_iff_eq.mpr c15
            have c15b1 : (t266 != 0) = false := bne_eq_false_iff_eq.mpr c15
            clear c15
            replace H := Option.bind_eq_some_iff.mp H
            obtain ⟨t267, A160, H⟩ := H
            replace H : (some t267) = some r := H
            have A16 := Aside0.mk A160
            clear A160
            obtain rfl := Option.some.inj H
            go_wp2_with (first | ((with_reducible refine gate_callee (f := 12) rfl ?_); refine goesL_ (some 29) rfl rfl Try.func12 (by kernel_rfl) rfl #[.slice A0 l0.length c0, .slice A1 l1.length c1] rfl (by (try simp only [List.map_toArray, List.map_cons, List.map_nil]); first | done | rfl | (simp only [List.length_drop, List.length_take]; rfl)) ?_; (with_reducible refine (focus_Choose.calls kj3 _ _ l0 _ _ l1 t266 _ ?side1 ?side2 ?side3 ?side4 A13.out).mono ?_); (case side1 => repeat (first | exact (Kd.C_below HR0.out HB.out) | (with_reducible refine Kd.C_alloc ?_ _) | (with_reducible refine Kd.C_drewN ?_ _) | (with_reducible refine Kd.C_drew ?_))); (case side2 => exact HC0.out); (case side3 => repeat (first | exact (Kd.C_below HR1.out HB.out) | (with_reducible refine Kd.C_alloc ?_ _) | (with_reducible refine Kd.C_drewN ?_ _) | (with_reducible refine Kd.C_drew ?_))); (case side4 => exact HC1.out); rintro e w17 ⟨rfl, hb⟩; refine ⟨_, rfl, ?_⟩; have n0_ := Aside0.mk (below_step (by repeat (first | (with_reducible first | exact HB.out | apply below_alloc | apply pw_below_drewN | apply below_drew1) | exact HB.out)) hb); clear HB; have HB := n0_; clear n0_; (try clear hb); (try clear hb2); (try clear hk); (try clear hi)) | (go_at_call 9; (with_reducible refine (casementlaw17_awake.calls kj3  t267 _ A16.out).mono ?_); rintro e w18 ⟨rfl, hb⟩; have n0_ := Aside0.mk (below_step (by repeat (first | (with_reducible first | exact HB.out | apply below_alloc | apply pw_below_drewN | apply below_drew1) | exact HB.out)) hb); clear HB; have HB := n0_; clear n0_; (try clear hb); (try clear hb2); (try clear hk); (try clear hi)))
            go_ret
            exact ⟨by first | rfl | (simp [errW_none, errW_some] <;> rfl) | (simp [*, errW_none, errW_some] <;> rfl), by repeat (first | (with_reducible first | exact HB.out | apply below_alloc | apply pw_below_drewN | apply below_drew1) | exact HB.out)⟩
          · rw [if_neg c15] at H
            have c15b0 : (t266 == 0) = false := beq_eq_false_iff_ne.mpr c15
            have c15b1 : (t266 != 0) = true := bne_iff_ne.mpr c15
            obtain rfl := Option.some.inj H
            go_wp2_with (first | ((with_reducible refine gate_callee (f := 12) rfl ?_); refine goesL_ (some 29) rfl rfl Try.func12 (by kernel_rfl) rfl #[.slice A0 l0.length c0, .slice A1 l1.length c1] rfl (by (try simp only [List.map_toArray, List.map_cons, List.map_nil]); first | done | rfl | (simp only [List.length_drop, List.length_take]; rfl)) ?_; (with_reducible refine (focus_Choose.calls kj3 _ _ l0 _ _ l1 t266 _ ?side1 ?side2 ?side3 ?side4 A13.out).mono ?_); (case side1 => repeat (first | exact (Kd.C_below HR0.out HB.out) | (with_reducible refine Kd.C_alloc ?_ _) | (with_reducible refine Kd.C_drewN ?_ _) | (with_reducible refine Kd.C_drew ?_))); (case side2 => exact HC0.out); (case side3 => repeat (first | exact (Kd.C_below HR1.out HB.out) | (with_reducible refine Kd.C_alloc ?_ _) | (with_reducible refine Kd.C_drewN ?_ _) | (with_reducible refine Kd.C_drew ?_))); (case side4 => exact HC1.out); rintro e w19 ⟨rfl, hb⟩; refine ⟨_, rfl, ?_⟩; have n0_ := Aside0.mk (below_step (by repeat (first | (with_reducible first | exact HB.out | apply below_alloc | apply pw_below_drewN | apply below_drew1) | exact HB.out)) hb); clear HB; have HB := n0_; clear n0_; (try clear hb); (try clear hb2); (try clear hk); (try clear hi)))
            go_ret
            exact ⟨by first | rfl | (simp [errW_none, errW_some] <;> rfl) | (simp [*, errW_none, errW_some] <;> rfl), by repeat (first | (with_reducible first | exact HB.out | apply below_alloc | apply pw_below_drewN | apply below_drew1) | exact HB.out)⟩
        · rw [if_neg c14] at H
          have c14b0 : ((l0.length : Int) == 0) = false := beq_eq_false_iff_ne.mpr c14
          have c14b1 : ((l0.length : Int) != 0) = true := bne_iff_ne.mpr c14
          have c14b2 : ¬ (l0 = []) := fun h_ => c14 (by rw [h_]; rfl)
          have HC20 := Aside0.mk H
          clear H
          go_upto_region 6 with (first | ((with_reducible refine gate_callee (f := 12) rfl ?_); refine goesL_ (some 29) rfl rfl Try.func12 (by kernel_rfl) rfl #[.slice A0 l0.length c0, .slice A1 l1.length c1] rfl (by (try simp only [List.map_toArray, List.map_cons, List.map_nil]); first | done | rfl | (simp only [List.length_drop, List.length_take]; rfl)) ?_; (with_reducible refine (focus_Choose.calls kj3 _ _ l0 _ _ l1 t266 _ ?side1 ?side2 ?side3 ?side4 A13.out).mono ?_); (case side1 => repeat (first | exact (Kd.C_below HR0.out HB.out) | (with_reducible refine Kd.C_alloc ?_ _) | (with_reducible refine Kd.C_drewN ?_ _) | (with_reducible refine Kd.C_drew ?_))); (case side2 => exact HC0.out); (case side3 => repeat (first | exact (Kd.C_below HR1.out HB.out) | (with_reducible refine Kd.C_alloc ?_ _) | (with_reducible refine Kd.C_drewN ?_ _) | (with_reducible refine Kd.C_drew ?_))); (case side4 => exact HC1.out); rintro e w21 ⟨rfl, hb⟩; refine ⟨_, rfl, ?_⟩; have n0_ := Aside0.mk (below_step (by repeat (first | (with_reducible first | exact HB.out | apply below_alloc | apply pw_below_drewN | apply below_drew1) | exact HB.out)) hb); clear HB; have HB := n0_; clear n0_; (try clear hb); (try clear hb2); (try clear hk); (try clear hi)))
          (try simp only [Act.put, List.setIfInBounds_toArray, List.set_cons_zero, List.set_cons_succ])
          go_cut [48] (fun v48 wc => ∃ (kq : Nat) (x48_19 : Bool), v48 = .bool x48_19 ∧ Aside0 (casementlaw17_FocusFree.j1 kq l0 l1 a2 t266 x48_19 = some r) ∧ Aside0 (kq ≤ kj3) ∧ Aside0 (Below w.heap.size w wc))
          case first =>
            have H := HC20.out
            clear HC20
            replace H := Option.bind_eq_some_iff.mp H
            obtain ⟨t268, A220, H⟩ := H
            replace H : (if t268 < 0 then (casementlaw17_FocusFree.j1 kj3 l0 l1 a2 t266 true) else ((focus_Modal.f kj3 l0 t266).bind fun t269 => (casementlaw17_FocusFree.j1 kj3 l0 l1 a2 t266 (t269 != t266)))) = some r := H
            have A22 := Aside0.mk A220
            clear A220
            by_cases c23 : t268 < 0
            · rw [if_pos c23] at H
              have c23b0 : decide (t268 < 0) = true := decide_eq_true c23
              clear c23
              (first | rw [c23b0] | (simp only [i64_w, i32_w]; rw [c23b0]) | skip)
              have H' := Aside0.mk H
              clear H
              go_wp2_with (first | ((with_reducible refine gate_callee (f := 17) rfl ?_); refine goesL_ (some 40) rfl rfl Try.func17 (by kernel_rfl) rfl #[.slice A0 l0.length c0, .int .i64 t266] rfl (by (try simp only [List.map_toArray, List.map_cons, List.map_nil]); first | done | rfl | (simp only [List.length_drop, List.length_take]; rfl)) ?_; (with_reducible refine (casementref16_Place.calls kj3 _ _ l0 t266 t268 _ ?side1 ?side2 A22.out).mono ?_); (case side1 => repeat (first | exact (Kd.C_below HR0.out HB.out) | (with_reducible refine Kd.C_alloc ?_ _) | (with_reducible refine Kd.C_drewN ?_ _) | (with_reducible refine Kd.C_drew ?_))); (case side2 => exact HC0.out); rintro e w' ⟨rfl, ⟨nd, rfl⟩⟩; refine ⟨_, rfl, ?_⟩))
              go_meet
              case rel => exact ⟨_, (true), (by first | rfl | (simp; done) | (simp [*]; done) | (congr 2; generalize ByteArray.toList _ = l_; cases l_ <;> rfl)), H', ⟨by have := HJ3.out; first | omega | exact Nat.le_refl _⟩, ⟨by repeat (first | (with_reducible first | exact HB.out | apply below_alloc | apply pw_below_drewN | apply below_drew1) | exact HB.out)⟩⟩
            · rw [if_neg c23] at H
              have c23b0 : decide (t268 < 0) = false := decide_eq_false c23
              clear c23
              (first | rw [c23b0] | (simp only [i64_w, i32_w]; rw [c23b0]) | skip)
              replace H := Option.bind_eq_some_iff.mp H
              obtain ⟨t269, A240, H⟩ := H
              replace H : (casementlaw17_FocusFree.j1 kj3 l0 l1 a2 t266 (t269 != t266)) = some r := H
              have A24 := Aside0.mk A240
              clear A240
              have H' := Aside0.mk H
              clear H
              go_wp2_with (first | ((with_reducible refine gate_callee (f := 17) rfl ?_); refine goesL_ (some 40) rfl rfl Try.func17 (by kernel_rfl) rfl #[.slice A0 l0.length c0, .int .i64 t266] rfl (by (try simp only [List.map_toArray, List.map_cons, List.map_nil]); first | done | rfl | (simp only [List.length_drop, List.length_take]; rfl)) ?_; (with_reducible refine (casementref16_Place.calls kj3 _ _ l0 t266 t268 _ ?side1 ?side2 A22.out).mono ?_); (case side1 => repeat (first | exact (Kd.C_below HR0.out HB.out) | (with_reducible refine Kd.C_alloc ?_ _) | (with_reducible refine Kd.C_drewN ?_ _) | (with_reducible refine Kd.C_drew ?_))); (case side2 => exact HC0.out); rintro e w' ⟨rfl, ⟨nd, rfl⟩⟩; refine ⟨_, rfl, ?_⟩) | (go_at_call 10; (with_reducible refine (focus_Modal.calls kj3 _ _ l0 t266 t269 _ ?side1 ?side2 A24.out).mono ?_); (case side1 => repeat (first | exact (Kd.C_below HR0.out (by repeat (first | (with_reducible first | exact HB.out | apply below_alloc | apply pw_below_drewN | apply below_drew1) | exact HB.out))) | (with_reducible refine Kd.C_alloc ?_ _) | (with_reducible refine Kd.C_drewN ?_ _) | (with_reducible refine Kd.C_drew ?_))); (case side2 => exact HC0.out); rintro e w25 ⟨rfl, hb⟩; have n0_ := Aside0.mk (below_step (by repeat (first | (with_reducible first | exact HB.out | apply below_alloc | apply pw_below_drewN | apply below_drew1) | exact HB.out)) hb); clear HB; have HB := n0_; clear n0_; (try clear hb); (try clear hb2); (try clear hk); (try clear hi)))
              go_meet
              case rel => exact ⟨_, ((t269 != t266)), (by first | rfl | (simp; done) | (simp [*]; done) | (congr 2; generalize ByteArray.toList _ = l_; cases l_ <;> rfl)), H', ⟨by have := HJ3.out; first | omega | exact Nat.le_refl _⟩, ⟨by repeat (first | (with_reducible first | exact HB.out | apply below_alloc | apply pw_below_drewN | apply below_drew1) | exact HB.out)⟩⟩
          case rest =>
            clear HC20
            try clear c1
            try clear c2
            try clear p2
            try clear c5
            try clear c5b0
            try clear c5b1
            try clear c6
            try clear c7
            try clear c7b0
            try clear c7b1
            try clear c9
            try clear c10
            try clear c12
            try clear c14
            try clear c14b0
            try clear c14b1
            try clear c14b2
            try clear c15
            try clear c15b0
            try clear c15b1
            try clear c17
            try clear c23
            try clear c23b0
            try clear p2
            obtain ⟨kq, x48_19, rfl, HA, HJ19, HB⟩ := hcut
            cases kq with
            | zero => exact absurd HA.out (by simp [casementlaw17_FocusFree.j1])
            | succ kj19 =>
              have H := HA.out
              clear HA
              simp only [casementlaw17_FocusFree.j1] at H
              by_cases c26 : x48_19 = true
              · subst c26
                have H1 : (some false) = some r := by rw [if_pos rfl] at H; exact H
                clear H
                have H := H1
                clear H1
                obtain rfl := Option.some.inj H
                go_wp2
                go_ret
                exact ⟨by first | rfl | (simp [errW_none, errW_some] <;> rfl) | (simp [*, errW_none, errW_some] <;> rfl), by repeat (first | (with_reducible first | exact HB.out | apply below_alloc | apply pw_below_drewN | apply below_drew1) | exact HB.out)⟩
              · replace c26 := Bool.eq_false_iff.mpr c26
                subst c26
                have H1 : ((order_Owners.f l0).bind fun t270 => (casementlaw17_FocusFree.l0 kj19 l0 l1 a2 t266 t270 0)) = some r := by rw [if_neg (show ¬ (false = true) by decide)] at H; exact H
                clear H
                have H := H1
                clear H1
                replace H := Option.bind_eq_some_iff.mp H
                obtain ⟨t270, A270, H⟩ := H
                replace H : (casementlaw17_FocusFree.l0 kj19 l0 l1 a2 t266 t270 0) = some r := H
                have A27 := Aside0.mk A270
                clear A270
                have H' := Aside0.mk H
                clear H
                go_wp2_with (first | ((with_reducible refine gate_callee (f := 18) rfl ?_); refine goesL_ (some 50) rfl rfl Try.func18 (by kernel_rfl) rfl #[.slice A0 l0.length c0] rfl (by (try simp only [List.map_toArray, List.map_cons, List.map_nil]); first | done | rfl | (simp only [List.length_drop, List.length_take]; rfl)) ?_; (with_reducible refine (order_Owners.calls _ _ l0 t270 _ ?side1 ?side2 A27.out).mono ?_); (case side1 => repeat (first | exact (Kd.C_below HR0.out HB.out) | (with_reducible refine Kd.C_alloc ?_ _) | (with_reducible refine Kd.C_drewN ?_ _) | (with_reducible refine Kd.C_drew ?_))); (case side2 => exact HC0.out); rintro e w28 ⟨v271, rfl, ho0, hb⟩; refine ⟨_, rfl, ?_⟩; have n0_ := Aside0.mk (Kd.R_lower ho0 (below_size (by repeat (first | (with_reducible first | exact HB.out | apply below_alloc | apply pw_below_drewN | apply below_drew1) | exact HB.out)))); have n1_ := Aside0.mk (below_step (by repeat (first | (with_reducible first | exact HB.out | apply below_alloc | apply pw_below_drewN | apply below_drew1) | exact HB.out)) hb); clear HB; have HO272 := n0_; have HB := n1_; clear n0_ n1_; (try clear hb); (try clear hb2); (try clear hk); (try clear hi); (try clear ho0)))
                go_loopg [9] kj19 (fun kq v9 w' => ∃ (x9_3 : Int), v9 = .int .i64 x9_3 ∧ Aside0 (casementlaw17_FocusFree.l0 kq l0 l1 a2 t266 t270 x9_3 = some r) ∧ Aside0 (kq ≤ kj19) ∧ Aside0 (Kd.R (Kd.int .i64) 3 w' w.heap.size (fun _ => True) v271 t270) ∧ Aside0 (Below w.heap.size w w'))
                case atStart => exact ⟨(0), (by first | rfl | (simp; done) | (simp [*]; done) | (congr 2; generalize ByteArray.toList _ = l_; cases l_ <;> rfl)), H', ⟨Nat.le_refl _⟩, ⟨by (with_reducible repeat (first | apply Kd.R_alloc | apply Kd.R_drewN | apply Kd.R_drew)); exact HO272.out⟩, ⟨by repeat (first | (with_reducible first | exact HB.out | apply below_alloc | apply pw_below_drewN | apply below_drew1) | exact HB.out)⟩⟩
                case round =>
                  clear H'
                  try clear c1
                  try clear c2
                  try clear p2
                  try clear c5
                  try clear c5b0
                  try clear c5b1
                  try clear c6
                  try clear c7
                  try clear c7b0
                  try clear c7b1
                  try clear c9
                  try clear c10
                  try clear c12
                  try clear c14
                  try clear c14b0
                  try clear c14b1
                  try clear c14b2
                  try clear c15
                  try clear c15b0
                  try clear c15b1
                  try clear c17
                  try clear c18
                  try clear c23
                  try clear c23b0
                  try clear c26
                  try clear p2
                  obtain ⟨x9_3, rfl, HA, HK3, HO_8, HB⟩ := hrel
                  cases gk with
                  | zero => exact absurd HA.out (by simp [casementlaw17_FocusFree.l0])
                  | succ k3 =>
                    have H := HA.out
                    clear HA
                    simp only [casementlaw17_FocusFree.l0] at H
                    by_cases c29 : x9_3 < (l0.length : Int)
                    · rw [if_pos c29] at H
                      have c29b0 : decide (x9_3 < (l0.length : Int)) = true := decide_eq_true c29
                      clear c29
                      by_cases c30 : 0 ≤ x9_3
                      · rw [if_pos c30] at H
                        have c30b0 : decide (0 ≤ x9_3) = true := decide_eq_true c30
                        clear c30
                        obtain ⟨bq31, hbq31⟩ : ∃ b_ : Bool, b_ = ((rd_T35 l0 x9_3).f3) := ⟨_, rfl⟩
                        replace H : (if bq31 = true then (if x9_3 < (t270.length : Int) then (if (rd t270 x9_3) = t266 then (some false) else (casementlaw17_FocusFree.l0 k3 l0 l1 a2 t266 t270 (wrap64 (x9_3 + 1)))) else (none)) else (casementlaw17_FocusFree.l0 k3 l0 l1 a2 t266 t270 (wrap64 (x9_3 + 1)))) = some r := by rw [← hbq31] at H; exact H
                        have Nbq31 := Aside0.mk hbq31
                        clear hbq31
                        by_cases c32 : bq31 = true
                        · subst c32
                          have H1 : (if x9_3 < (t270.length : Int) then (if (rd t270 x9_3) = t266 then (some false) else (casementlaw17_FocusFree.l0 k3 l0 l1 a2 t266 t270 (wrap64 (x9_3 + 1)))) else (none)) = some r := by rw [if_pos rfl] at H; exact H
                          clear H
                          have H := H1
                          clear H1
                          by_cases c33 : x9_3 < (t270.length : Int)
                          · rw [if_pos c33] at H
                            have c33b0 : decide (x9_3 < (t270.length : Int)) = true := decide_eq_true c33
                            clear c33
                            by_cases c34 : (rd t270 x9_3) = t266
                            · rw [if_pos c34] at H
                              have c34b0 : ((rd t270 x9_3) == t266) = true := beq_iff_eq.mpr c34
                              have c34b1 : ((rd t270 x9_3) != t266) = false := bne_eq_false_iff_eq.mpr c34
                              clear c34
                              obtain rfl := Option.some.inj H
                              have p273 : 0 ≤ (x9_3 : Int) := of_decide_eq_true (by first | (with_reducible assumption) | assumption)
                              have q273 : x9_3 < (l0.length : Int) := of_decide_eq_true (by first | (with_reducible assumption) | assumption)
                              obtain ⟨ad273, e273, hx273_0, hx273_1, hx273_2, hx273_3, hx273_4, hx273_5⟩ := at_T35 HR0.out x9_3 p273 q273
                              (try rw [← Nbq31.out] at hx273_3)
                              cases e273
                              replace hx273_0 := (HB.out.cell (World.block_lt_of_cell? w _ hx273_0)).trans hx273_0
                              replace hx273_1 := (HB.out.cell (World.block_lt_of_cell? w _ hx273_1)).trans hx273_1
                              replace hx273_2 := (HB.out.cell (World.block_lt_of_cell? w _ hx273_2)).trans hx273_2
                              replace hx273_3 := (HB.out.cell (World.block_lt_of_cell? w _ hx273_3)).trans hx273_3
                              replace hx273_4 := (HB.out.cell (World.block_lt_of_cell? w _ hx273_4)).trans hx273_4
                              replace hx273_5 := (HB.out.cell (World.block_lt_of_cell? w _ hx273_5)).trans hx273_5
                              replace p273 := eq_true p273
                              replace q273 := eq_true q273
                              obtain ⟨Ao35, co35, eo35⟩ := Kd.R_slice HO_8.out
                              subst eo35
                              have p274 : 0 ≤ (x9_3 : Int) := of_decide_eq_true (by first | (with_reducible assumption) | assumption)
                              have q274 : x9_3 < (t270.length : Int) := of_decide_eq_true (by first | (with_reducible assumption) | assumption)
                              obtain ⟨ad274, e274, hx274_0⟩ := Kd.at_int (Kd.R_reads' HO_8.out).2.2 x9_3 p274 q274
                              cases e274
                              replace p274 := eq_true p274
                              replace q274 := eq_true q274
                              go_wp2
                              go_ret
                              exact ⟨by first | rfl | (simp [errW_none, errW_some] <;> rfl) | (simp [*, errW_none, errW_some] <;> rfl), by repeat (first | (with_reducible first | exact HB.out | apply below_alloc | apply pw_below_drewN | apply below_drew1) | exact HB.out)⟩
                            · rw [if_neg c34] at H
                              have c34b0 : ((rd t270 x9_3) == t266) = false := beq_eq_false_iff_ne.mpr c34
                              have c34b1 : ((rd t270 x9_3) != t266) = true := bne_iff_ne.mpr c34
                              have H' := Aside0.mk H
                              clear H
                              have p273 : 0 ≤ (x9_3 : Int) := of_decide_eq_true (by first | (with_reducible assumption) | assumption)
                              have q273 : x9_3 < (l0.length : Int) := of_decide_eq_true (by first | (with_reducible assumption) | assumption)
                              obtain ⟨ad273, e273, hx273_0, hx273_1, hx273_2, hx273_3, hx273_4, hx273_5⟩ := at_T35 HR0.out x9_3 p273 q273
                              (try rw [← Nbq31.out] at hx273_3)
                              cases e273
                              replace hx273_0 := (HB.out.cell (World.block_lt_of_cell? w _ hx273_0)).trans hx273_0
                              replace hx273_1 := (HB.out.cell (World.block_lt_of_cell? w _ hx273_1)).trans hx273_1
                              replace hx273_2 := (HB.out.cell (World.block_lt_of_cell? w _ hx273_2)).trans hx273_2
                              replace hx273_3 := (HB.out.cell (World.block_lt_of_cell? w _ hx273_3)).trans hx273_3
                              replace hx273_4 := (HB.out.cell (World.block_lt_of_cell? w _ hx273_4)).trans hx273_4
                              replace hx273_5 := (HB.out.cell (World.block_lt_of_cell? w _ hx273_5)).trans hx273_5
                              replace p273 := eq_true p273
                              replace q273 := eq_true q273
                              obtain ⟨Ao36, co36, eo36⟩ := Kd.R_slice HO_8.out
                              subst eo36
                              have p274 : 0 ≤ (x9_3 : Int) := of_decide_eq_true (by first | (with_reducible assumption) | assumption)
                              have q274 : x9_3 < (t270.length : Int) := of_decide_eq_true (by first | (with_reducible assumption) | assumption)
                              obtain ⟨ad274, e274, hx274_0⟩ := Kd.at_int (Kd.R_reads' HO_8.out).2.2 x9_3 p274 q274
                              cases e274
                              replace p274 := eq_true p274
                              replace q274 := eq_true q274
                              go_wp2
                              go_roundg k3
                              case measure => have := HJ3.out; have := HJ19.out; have := HK3.out; omega
                              case rel => exact ⟨(wrap64 (x9_3 + 1)), (by first | rfl | (simp; done) | (simp [*]; done) | (congr 2; generalize ByteArray.toList _ = l_; cases l_ <;> rfl)), H', ⟨by have := HJ3.out; have := HJ19.out; have := HK3.out; omega⟩, ⟨by (with_reducible repeat (first | apply Kd.R_alloc | apply Kd.R_drewN | apply Kd.R_drew)); exact HO_8.out⟩, ⟨by repeat (first | (with_reducible first | exact HB.out | apply below_alloc | apply pw_below_drewN | apply below_drew1) | exact HB.out)⟩⟩
                          · rw [if_neg c33] at H
                            exact absurd H (by simp)
                        · replace c32 := Bool.eq_false_iff.mpr c32
                          subst c32
                          have H1 : (casementlaw17_FocusFree.l0 k3 l0 l1 a2 t266 t270 (wrap64 (x9_3 + 1))) = some r := by rw [if_neg (show ¬ (false = true) by decide)] at H; exact H
                          clear H
                          have H := H1
                          clear H1
                          have H' := Aside0.mk H
                          clear H
                          have p273 : 0 ≤ (x9_3 : Int) := of_decide_eq_true (by first | (with_reducible assumption) | assumption)
                          have q273 : x9_3 < (l0.length : Int) := of_decide_eq_true (by first | (with_reducible assumption) | assumption)
                          obtain ⟨ad273, e273, hx273_0, hx273_1, hx273_2, hx273_3, hx273_4, hx273_5⟩ := at_T35 HR0.out x9_3 p273 q273
                          (try rw [← Nbq31.out] at hx273_3)
                          cases e273
                          replace hx273_0 := (HB.out.cell (World.block_lt_of_cell? w _ hx273_0)).trans hx273_0
                          replace hx273_1 := (HB.out.cell (World.block_lt_of_cell? w _ hx273_1)).trans hx273_1
                          replace hx273_2 := (HB.out.cell (World.block_lt_of_cell? w _ hx273_2)).trans hx273_2
                          replace hx273_3 := (HB.out.cell (World.block_lt_of_cell? w _ hx273_3)).trans hx273_3
                          replace hx273_4 := (HB.out.cell (World.block_lt_of_cell? w _ hx273_4)).trans hx273_4
                          replace hx273_5 := (HB.out.cell (World.block_lt_of_cell? w _ hx273_5)).trans hx273_5
                          replace p273 := eq_true p273
                          replace q273 := eq_true q273
                          go_wp2
                          go_roundg k3
                          case measure => have := HJ3.out; have := HJ19.out; have := HK3.out; omega
                          case rel => exact ⟨(wrap64 (x9_3 + 1)), (by first | rfl | (simp; done) | (simp [*]; done) | (congr 2; generalize ByteArray.toList _ = l_; cases l_ <;> rfl)), H', ⟨by have := HJ3.out; have := HJ19.out; have := HK3.out; omega⟩, ⟨by (with_reducible repeat (first | apply Kd.R_alloc | apply Kd.R_drewN | apply Kd.R_drew)); exact HO_8.out⟩, ⟨by repeat (first | (with_reducible first | exact HB.out | apply below_alloc | apply pw_below_drewN | apply below_drew1) | exact HB.out)⟩⟩
                      · rw [if_neg c30] at H
                        exact absurd H (by simp)
                    · rw [if_neg c29] at H
                      have c29b0 : decide (x9_3 < (l0.length : Int)) = false := decide_eq_false c29
                      clear c29
                      replace H := Option.bind_eq_some_iff.mp H
                      obtain ⟨t275, A370, H⟩ := H
                      replace H : (if (l0.length : Int) = 1 then (if 0 < (l0.length : Int) then (casementlaw17_FocusFree.j3 k3 l0 a2 t275 (((rd_T35 l0 0).f0) == a2)) else (none)) else (casementlaw17_FocusFree.j3 k3 l0 a2 t275 false)) = some r := H
                      have A37 := Aside0.mk A370
                      clear A370
                      have HC38 := Aside0.mk H
                      clear H
                      go_upto_region 15 with (first | ((with_reducible refine gate_callee (f := 14) rfl ?_); refine goesL_ (some 73) rfl rfl Try.func14 (by kernel_rfl) rfl #[.slice A0 l0.length c0, .slice A1 l1.length c1, .int .i64 a2] rfl (by (try simp only [List.map_toArray, List.map_cons, List.map_nil]); first | done | rfl | (simp only [List.length_drop, List.length_take]; rfl)) ?_; (with_reducible refine (focus_After.calls k3 _ _ l0 _ _ l1 a2 t275 _ ?side1 ?side2 ?side3 ?side4 A37.out).mono ?_); (case side1 => repeat (first | exact (Kd.C_below HR0.out HB.out) | (with_reducible refine Kd.C_alloc ?_ _) | (with_reducible refine Kd.C_drewN ?_ _) | (with_reducible refine Kd.C_drew ?_))); (case side2 => exact HC0.out); (case side3 => repeat (first | exact (Kd.C_below HR1.out HB.out) | (with_reducible refine Kd.C_alloc ?_ _) | (with_reducible refine Kd.C_drewN ?_ _) | (with_reducible refine Kd.C_drew ?_))); (case side4 => exact HC1.out); rintro e w39 ⟨rfl, hb⟩; refine ⟨_, rfl, ?_⟩; have n0_ := Aside0.mk (Kd.R_below (by (with_reducible repeat (first | apply Kd.R_alloc | apply Kd.R_drewN | apply Kd.R_drew)); exact HO_8.out) hb); have n1_ := Aside0.mk (below_step (by repeat (first | (with_reducible first | exact HB.out | apply below_alloc | apply pw_below_drewN | apply below_drew1) | exact HB.out)) hb); clear HO_8; clear HB; have HO_8 := n0_; have HB := n1_; clear n0_ n1_; (try clear hb); (try clear hb2); (try clear hk); (try clear hi)))
                      (try simp only [Act.put, List.setIfInBounds_toArray, List.set_cons_zero, List.set_cons_succ])
                      go_cut [84] (fun v84 wc => ∃ (kq : Nat) (x84_37 : Bool), v84 = .bool x84_37 ∧ Aside0 (casementlaw17_FocusFree.j3 kq l0 a2 t275 x84_37 = some r) ∧ Aside0 (kq ≤ k3) ∧ Aside0 (Below w.heap.size w wc))
                      case first =>
                        have H := HC38.out
                        clear HC38
                        by_cases c40 : (l0.length : Int) = 1
                        · rw [if_pos c40] at H
                          have c40b0 : ((l0.length : Int) == 1) = true := beq_iff_eq.mpr c40
                          have c40b1 : ((l0.length : Int) != 1) = false := bne_eq_false_iff_eq.mpr c40
                          clear c40
                          (first | rw [c40b0] | (simp only [i64_w, i32_w]; rw [c40b0]) | skip)
                          by_cases c41 : 0 < (l0.length : Int)
                          · rw [if_pos c41] at H
                            have c41b0 : decide (0 < (l0.length : Int)) = true := decide_eq_true c41
                            have c41b1 : decide (0 < l0.length) = true := decide_eq_true (by omega)
                            clear c41
                            have H' := Aside0.mk H
                            clear H
                            have p276 : 0 ≤ (0 : Int) := (by omega)
                            have q276 : 0 < (l0.length : Int) := of_decide_eq_true (by first | (with_reducible assumption) | assumption)
                            obtain ⟨ad276, e276, hx276_0, hx276_1, hx276_2, hx276_3, hx276_4, hx276_5⟩ := at_T35 HR0.out 0 p276 q276
                            cases e276
                            have qi276 : (0 < l0.length) = True := eq_true (by omega)
                            (try rw [show ((0 : Int)).toNat = 0 from rfl] at hx276_0)
                            (try rw [show 0 * 6 = 0 from rfl] at hx276_0)
                            (try rw [Addr.add_zero'] at hx276_0)
                            (try rw [show ((0 : Int)).toNat = 0 from rfl] at hx276_1)
                            (try rw [show 0 * 6 = 0 from rfl] at hx276_1)
                            (try rw [Addr.add_zero'] at hx276_1)
                            (try rw [show ((0 : Int)).toNat = 0 from rfl] at hx276_2)
                            (try rw [show 0 * 6 = 0 from rfl] at hx276_2)
                            (try rw [Addr.add_zero'] at hx276_2)
                            (try rw [show ((0 : Int)).toNat = 0 from rfl] at hx276_3)
                            (try rw [show 0 * 6 = 0 from rfl] at hx276_3)
                            (try rw [Addr.add_zero'] at hx276_3)
                            (try rw [show ((0 : Int)).toNat = 0 from rfl] at hx276_4)
                            (try rw [show 0 * 6 = 0 from rfl] at hx276_4)
                            (try rw [Addr.add_zero'] at hx276_4)
                            (try rw [show ((0 : Int)).toNat = 0 from rfl] at hx276_5)
                            (try rw [show 0 * 6 = 0 from rfl] at hx276_5)
                            (try rw [Addr.add_zero'] at hx276_5)
                            replace hx276_0 := (HB.out.cell (World.block_lt_of_cell? w _ hx276_0)).trans hx276_0
                            replace hx276_1 := (HB.out.cell (World.block_lt_of_cell? w _ hx276_1)).trans hx276_1
                            replace hx276_2 := (HB.out.cell (World.block_lt_of_cell? w _ hx276_2)).trans hx276_2
                            replace hx276_3 := (HB.out.cell (World.block_lt_of_cell? w _ hx276_3)).trans hx276_3
                            replace hx276_4 := (HB.out.cell (World.block_lt_of_cell? w _ hx276_4)).trans hx276_4
                            replace hx276_5 := (HB.out.cell (World.block_lt_of_cell? w _ hx276_5)).trans hx276_5
                            replace p276 := eq_true p276
                            replace q276 := eq_true q276
                            go_wp2
                            go_meet
                            case rel => exact ⟨_, ((((rd_T35 l0 0).f0) == a2)), (by first | rfl | (simp; done) | (simp [*]; done) | (congr 2; generalize ByteArray.toList _ = l_; cases l_ <;> rfl)), H', ⟨by have := HJ3.out; have := HJ19.out; have := HK3.out; first | omega | exact Nat.le_refl _⟩, ⟨by repeat (first | (with_reducible first | exact HB.out | apply below_alloc | apply pw_below_drewN | apply below_drew1) | exact HB.out)⟩⟩
                          · rw [if_neg c41] at H
                            exact absurd H (by simp)
                        · rw [if_neg c40] at H
                          have c40b0 : ((l0.length : Int) == 1) = false := beq_eq_false_iff_ne.mpr c40
                          have c40b1 : ((l0.length : Int) != 1) = true := bne_iff_ne.mpr c40
                          (first | rw [c40b0] | (simp only [i64_w, i32_w]; rw [c40b0]) | skip)
                          have H' := Aside0.mk H
                          clear H
                          go_wp2
                          go_meet
                          case rel => exact ⟨_, (false), (by first | rfl | (simp; done) | (simp [*]; done) | (congr 2; generalize ByteArray.toList _ = l_; cases l_ <;> rfl)), H', ⟨by have := HJ3.out; have := HJ19.out; have := HK3.out; first | omega | exact Nat.le_refl _⟩, ⟨by repeat (first | (with_reducible first | exact HB.out | apply below_alloc | apply pw_below_drewN | apply below_drew1) | exact HB.out)⟩⟩
                      case rest =>
                        clear HC38
                        try clear c1
                        try clear c2
                        try clear p2
                        try clear q2
                        try clear hx2
                        try clear qi2
                        try clear c3
                        try clear q3
                        try clear c4
                        try clear c5
                        try clear c5b0
                        try clear c5b1
                        try clear c6
                        try clear p6
                        try clear c7
                        try clear c7b0
                        try clear c7b1
                        try clear c9
                        try clear c10
                        try clear c12
                        try clear c14
                        try clear c14b0
                        try clear c14b1
                        try clear c14b2
                        try clear c15
                        try clear c15b0
                        try clear c15b1
                        try clear c17
                        try clear c18
                        try clear c23
                        try clear c23b0
                        try clear c26
                        try clear p27
                        try clear q27
                        try clear hx27
                        try clear qi27
                        try clear c29
                        try clear c29b0
                        try clear c30
                        try clear c30b0
                        try clear q31
                        try clear c32
                        try clear c33
                        try clear c33b0
                        try clear c34
                        try clear c34b0
                        try clear c34b1
                        try clear c40
                        try clear c40b0
                        try clear c40b1
                        try clear c41
                        try clear c41b0
                        try clear c41b1
                        try clear hx273_0
                        try clear hx273_1
                        try clear hx273_2
                        try clear hx273_3
                        try clear hx273_4
                        try clear hx273_5
                        try clear hx274_0
                        try clear hx276_0
                        try clear hx276_1
                        try clear hx276_2
                        try clear hx276_3
                        try clear hx276_4
                        try clear hx276_5
                        try clear p2
                        try clear p273
                        try clear p274
                        try clear p276
                        try clear q273
                        try clear q274
                        try clear q276
                        obtain ⟨kq, x84_37, rfl, HA, HJ37, HB⟩ := hcut
                        cases kq with
                        | zero => exact absurd HA.out (by simp [casementlaw17_FocusFree.j3])
                        | succ kj37 =>
                          have H := HA.out
                          clear HA
                          simp only [casementlaw17_FocusFree.j3] at H
                          by_cases c42 : x84_37 = true
                          · subst c42
                            have H1 : (if t275 = 0 then ((casementlaw17_awake.f kj37).bind fun t277 => (some t277)) else (some false)) = some r := by rw [if_pos rfl] at H; exact H
                            clear H
                            have H := H1
                            clear H1
                            by_cases c43 : t275 = 0
                            · rw [if_pos c43] at H
                              have c43b0 : (t275 == 0) = true := beq_iff_eq.mpr c43
                              have c43b1 : (t275 != 0) = false := bne_eq_false_iff_eq.mpr c43
                              clear c43
                              replace H := Option.bind_eq_some_iff.mp H
                              obtain ⟨t277, A440, H⟩ := H
                              replace H : (some t277) = some r := H
                              have A44 := Aside0.mk A440
                              clear A440
                              obtain rfl := Option.some.inj H
                              go_wp2_with (first | (go_at_call 9; (with_reducible refine (casementlaw17_awake.calls kj37  t277 _ A44.out).mono ?_); rintro e w45 ⟨rfl, hb⟩; have n0_ := Aside0.mk (below_step (by repeat (first | (with_reducible first | exact HB.out | apply below_alloc | apply pw_below_drewN | apply below_drew1) | exact HB.out)) hb); clear HB; have HB := n0_; clear n0_; (try clear hb); (try clear hb2); (try clear hk); (try clear hi)))
                              go_ret
                              exact ⟨by first | rfl | (simp [errW_none, errW_some] <;> rfl) | (simp [*, errW_none, errW_some] <;> rfl), by repeat (first | (with_reducible first | exact HB.out | apply below_alloc | apply pw_below_drewN | apply below_drew1) | exact HB.out)⟩
                            · rw [if_neg c43] at H
                              have c43b0 : (t275 == 0) = false := beq_eq_false_iff_ne.mpr c43
                              have c43b1 : (t275 != 0) = true := bne_iff_ne.mpr c43
                              obtain rfl := Option.some.inj H
                              go_wp2
                              go_ret
                              exact ⟨by first | rfl | (simp [errW_none, errW_some] <;> rfl) | (simp [*, errW_none, errW_some] <;> rfl), by repeat (first | (with_reducible first | exact HB.out | apply below_alloc | apply pw_below_drewN | apply below_drew1) | exact HB.out)⟩
                          · replace c42 := Bool.eq_false_iff.mpr c42
                            subst c42
                            have H1 : (if t275 = a2 then (some false) else ((casementref16_Place.f kj37 l0 t275).bind fun t278 => (if t278 ≥ 0 then ((casementlaw17_awake.f kj37).bind fun t279 => (some t279)) else (some false)))) = some r := by rw [if_neg (show ¬ (false = true) by decide)] at H; exact H
                            clear H
                            have H := H1
                            clear H1
                            by_cases c46 : t275 = a2
                            · rw [if_pos c46] at H
                              have c46b0 : (t275 == a2) = true := beq_iff_eq.mpr c46
                              have c46b1 : (t275 != a2) = false := bne_eq_false_iff_eq.mpr c46
                              clear c46
                              obtain rfl := Option.some.inj H
                              go_wp2
                              go_ret
                              exact ⟨by first | rfl | (simp [errW_none, errW_some] <;> rfl) | (simp [*, errW_none, errW_some] <;> rfl), by repeat (first | (with_reducible first | exact HB.out | apply below_alloc | apply pw_below_drewN | apply below_drew1) | exact HB.out)⟩
                            · rw [if_neg c46] at H
                              have c46b0 : (t275 == a2) = false := beq_eq_false_iff_ne.mpr c46
                              have c46b1 : (t275 != a2) = true := bne_iff_ne.mpr c46
                              replace H := Option.bind_eq_some_iff.mp H
                              obtain ⟨t278, A470, H⟩ := H
                              replace H : (if t278 ≥ 0 then ((casementlaw17_awake.f kj37).bind fun t279 => (some t279)) else (some false)) = some r := H
                              have A47 := Aside0.mk A470
                              clear A470
                              by_cases c48 : t278 ≥ 0
                              · rw [if_pos c48] at H
                                have c48b0 : decide (0 ≤ t278) = true := decide_eq_true c48
                                clear c48
                                replace H := Option.bind_eq_some_iff.mp H
                                obtain ⟨t279, A490, H⟩ := H
                                replace H : (some t279) = some r := H
                                have A49 := Aside0.mk A490
                                clear A490
                                obtain rfl := Option.some.inj H
                                go_wp2_with (first | (go_at_call 17; (with_reducible refine (casementref16_Place.calls kj37 _ _ l0 t275 t278 _ ?side1 ?side2 A47.out).mono ?_); (case side1 => repeat (first | exact (Kd.C_below HR0.out HB.out) | (with_reducible refine Kd.C_alloc ?_ _) | (with_reducible refine Kd.C_drewN ?_ _) | (with_reducible refine Kd.C_drew ?_))); (case side2 => exact HC0.out); rintro e w' ⟨rfl, ⟨nd, rfl⟩⟩) | (go_at_call 9; (with_reducible refine (casementlaw17_awake.calls kj37  t279 _ A49.out).mono ?_); rintro e w50 ⟨rfl, hb⟩; have n0_ := Aside0.mk (below_step (by repeat (first | (with_reducible first | exact HB.out | apply below_alloc | apply pw_below_drewN | apply below_drew1) | exact HB.out)) hb); clear HB; have HB := n0_; clear n0_; (try clear hb); (try clear hb2); (try clear hk); (try clear hi)))
                                go_ret
                                exact ⟨by first | rfl | (simp [errW_none, errW_some] <;> rfl) | (simp [*, errW_none, errW_some] <;> rfl), by repeat (first | (with_reducible first | exact HB.out | apply below_alloc | apply pw_below_drewN | apply below_drew1) | exact HB.out)⟩
                              · rw [if_neg c48] at H
                                have c48b0 : decide (0 ≤ t278) = false := decide_eq_false c48
                                clear c48
                                obtain rfl := Option.some.inj H
                                go_wp2_with (first | (go_at_call 17; (with_reducible refine (casementref16_Place.calls kj37 _ _ l0 t275 t278 _ ?side1 ?side2 A47.out).mono ?_); (case side1 => repeat (first | exact (Kd.C_below HR0.out HB.out) | (with_reducible refine Kd.C_alloc ?_ _) | (with_reducible refine Kd.C_drewN ?_ _) | (with_reducible refine Kd.C_drew ?_))); (case side2 => exact HC0.out); rintro e w' ⟨rfl, ⟨nd, rfl⟩⟩))
                                go_ret
                                exact ⟨by first | rfl | (simp [errW_none, errW_some] <;> rfl) | (simp [*, errW_none, errW_some] <;> rfl), by repeat (first | (with_reducible first | exact HB.out | apply below_alloc | apply pw_below_drewN | apply below_drew1) | exact HB.out)⟩

end Go.Proofs.Ytljnhnkdcpinhaa.P
