-- WRITTEN by wip/tools/myprint.py of this session, a program over the kit's print
import Derived.Test.YtplchdlcolepmaaPx0
import Derived.Test.YtplchdlcolepmaaPx1
import Derived.Test.YtplchdlcolepmaaPx5
import Derived.Test.YtplchdlcolepmaaExtBands
import Derived.Test.YtplchdlcolepmaaExtCheck
import Derived.Test.YtplchdlcolepmaaExtOrder
import Derived.Test.YtplchdlcolepmaaExtOwnersB
namespace Go.Proofs.Ytplchdlcolepmaa.P
open Go.RowKit Go.Proofs.YtplchdlcolepmaaW.PrintWords Go.Proofs.YtplchdlcolepmaaW.PrintLast Go.Proofs.YtplchdlcolepmaaW.PrintMore
attribute [local go_sem] max2_int min2_int max_two min_two max_three min_three max_four min_four   -- for this text's walks alone
set_option linter.unusedVariables false
set_option linter.unusedSimpArgs false

/-! ### casementlaw16_OrderRaises: function 7 -/
mutual
def casementlaw16_OrderRaises.j0 : Nat → List (S38) → Int → Bool → Option (Bool)
  | 0, _, _, _ => none
  | k + 1, x0, x1, x22 => if x22 = true then ((casementlaw16_awake.f k).bind fun t295 => (some t295)) else (if (IntKind.u64.wrap ((x0.length : Int))) = 0 then (none) else ((some (([] : List (S38)) : List (S38))).bind fun y296 => (if y296.length + x0.length < 2932031007402 then (casementlaw16_OrderRaises.l0 k (wrap64 (Int.tmod x1 (IntKind.u64.wrap ((x0.length : Int))))) (y296 ++ x0) 0) else (none))))
def casementlaw16_OrderRaises.l0 : Nat → Int → List (S38) → Int → Option (Bool)
  | 0, _, _, _ => none
  | k + 1, x5, x6, x7 => if x7 < (x6.length : Int) then (if 0 ≤ x7 then (if ((rd_T38 x6 x7).f4) > 1099511627776 then ((casementlaw16_awake.f k).bind fun t303 => (some t303)) else (casementlaw16_OrderRaises.l0 k x5 x6 (wrap64 (x7 + 1)))) else (none)) else (if 0 ≤ x5 then (if x5 < (x6.length : Int) then ((some (x6.set (x5 : Int).toNat (⟨(rd_T38 x6 x5).f0, (rd_T38 x6 x5).f1, (rd_T38 x6 x5).f2, (rd_T38 x6 x5).f3, 1099511627777, (rd_T38 x6 x5).f5⟩ : S38) : List (S38))).bind fun y304 => ((order_Order.f y304).bind fun bt305 => ((order_Owners.f y304).bind fun t309 => ((order_Bands.f y304).bind fun t312 => (if bt305.2 = 0 then (if (t309.length : Int) = (x6.length : Int) then (casementlaw16_OrderRaises.j2 k x5 y304 bt305.1 t309 t312 ((t312.length : Int) != (x6.length : Int))) else (casementlaw16_OrderRaises.j2 k x5 y304 bt305.1 t309 t312 true)) else (casementlaw16_OrderRaises.j2 k x5 y304 bt305.1 t309 t312 true)))))) else (none)) else (none))
def casementlaw16_OrderRaises.j2 : Nat → Int → List (S38) → List Int → List Int → List Int → Bool → Option (Bool)
  | 0, _, _, _, _, _, _ => none
  | k + 1, x5, x6, x8, x10, x11, x74 => if x74 = true then (some false) else (if 0 ≤ x5 then (if x5 < (x6.length : Int) then ((casementlaw16_where.f k x8 ((rd_T38 x6 x5).f0)).bind fun t316 => (casementlaw16_OrderRaises.l1 k x5 x6 x8 x10 x11 (wrap64 (t316 + 1)))) else (none)) else (none))
def casementlaw16_OrderRaises.l1 : Nat → Int → List (S38) → List Int → List Int → List Int → Int → Option (Bool)
  | 0, _, _, _, _, _, _ => none
  | k + 1, x5, x6, x8, x10, x11, x12 => if x12 < (x8.length : Int) then (if 0 ≤ x12 then ((casementref16_Place.f k x6 (rd x8 x12)).bind fun t319 => (if 0 ≤ t319 then (if t319 < (x11.length : Int) then (if 0 ≤ x5 then (if x5 < (x11.length : Int) then (if (rd x11 t319) > (rd x11 x5) then (casementlaw16_OrderRaises.l1 k x5 x6 x8 x10 x11 (wrap64 (x12 + 1))) else (casementlaw16_OrderRaises.l2 k x5 x6 x8 x10 x11 x12 t319 0)) else (none)) else (none)) else (none)) else (none))) else (none)) else ((casementlaw16_awake.f k).bind fun t317 => (some t317))
def casementlaw16_OrderRaises.l2 : Nat → Int → List (S38) → List Int → List Int → List Int → Int → Int → Int → Option (Bool)
  | 0, _, _, _, _, _, _, _, _ => none
  | k + 1, x5, x6, x8, x10, x11, x12, x13, x14 => if x14 < (x6.length : Int) then (if 0 ≤ x13 then (if x13 < (x10.length : Int) then (if (rd x10 x13) = 0 then (if x13 = x5 then (casementlaw16_OrderRaises.l1 k x5 x6 x8 x10 x11 (wrap64 (x12 + 1))) else (some false)) else (if x13 = x5 then (casementlaw16_OrderRaises.l1 k x5 x6 x8 x10 x11 (wrap64 (x12 + 1))) else ((casementref16_Place.f k x6 (rd x10 x13)).bind fun t324 => (casementlaw16_OrderRaises.l2 k x5 x6 x8 x10 x11 x12 t324 (wrap64 (x14 + 1)))))) else (none)) else (none)) else (if x13 = x5 then (casementlaw16_OrderRaises.l1 k x5 x6 x8 x10 x11 (wrap64 (x12 + 1))) else (some false))
end
def casementlaw16_OrderRaises.f (k : Nat) (l0 : List (S38)) (a1 : Int) : Option (Bool) := if (l0.length : Int) = 0 then (casementlaw16_OrderRaises.j0 k l0 a1 true) else ((order_Check.f l0).bind fun t294 => (casementlaw16_OrderRaises.j0 k l0 a1 (t294 != 0)))
theorem casementlaw16_OrderRaises.mono_l : ∀ k, (∀ y0 y1 y2, LeO (casementlaw16_OrderRaises.j0 k y0 y1 y2) (casementlaw16_OrderRaises.j0 (k + 1) y0 y1 y2)) ∧ (∀ y0 y1 y2, LeO (casementlaw16_OrderRaises.l0 k y0 y1 y2) (casementlaw16_OrderRaises.l0 (k + 1) y0 y1 y2)) ∧ (∀ y0 y1 y2 y3 y4 y5, LeO (casementlaw16_OrderRaises.j2 k y0 y1 y2 y3 y4 y5) (casementlaw16_OrderRaises.j2 (k + 1) y0 y1 y2 y3 y4 y5)) ∧ (∀ y0 y1 y2 y3 y4 y5, LeO (casementlaw16_OrderRaises.l1 k y0 y1 y2 y3 y4 y5) (casementlaw16_OrderRaises.l1 (k + 1) y0 y1 y2 y3 y4 y5)) ∧ (∀ y0 y1 y2 y3 y4 y5 y6 y7, LeO (casementlaw16_OrderRaises.l2 k y0 y1 y2 y3 y4 y5 y6 y7) (casementlaw16_OrderRaises.l2 (k + 1) y0 y1 y2 y3 y4 y5 y6 y7))
  | 0 => ⟨fun _ _ _ r h => by simp [casementlaw16_OrderRaises.j0] at h, fun _ _ _ r h => by simp [casementlaw16_OrderRaises.l0] at h, fun _ _ _ _ _ _ r h => by simp [casementlaw16_OrderRaises.j2] at h, fun _ _ _ _ _ _ r h => by simp [casementlaw16_OrderRaises.l1] at h, fun _ _ _ _ _ _ _ _ r h => by simp [casementlaw16_OrderRaises.l2] at h⟩
  | k + 1 => by
    obtain ⟨ih0, ih1, ih2, ih3, ih4⟩ := casementlaw16_OrderRaises.mono_l k
    refine ⟨?_, ?_, ?_, ?_, ?_⟩
    · intro y0 y1 y2
      unfold casementlaw16_OrderRaises.j0
      repeat' first
      | (with_reducible exact ih0 _ _ _)
      | (with_reducible exact ih1 _ _ _)
      | (with_reducible exact ih2 _ _ _ _ _ _)
      | (with_reducible exact ih3 _ _ _ _ _ _)
      | (with_reducible exact ih4 _ _ _ _ _ _ _ _)
      | (with_reducible exact casementlaw16_awake.mono _)
      | (with_reducible exact casementlaw16_where.mono _ _ _)
      | (with_reducible exact casementref16_Place.mono _ _ _)
      | (with_reducible exact LeO.refl _)
      | (with_reducible exact LeO.none _)
      | (with_reducible refine LeO.ite ?_ ?_)
      | (with_reducible refine LeO.bind ?_ (fun _ => ?_))
      | exact ih0 _ _ _
      | exact ih1 _ _ _
      | exact ih2 _ _ _ _ _ _
      | exact ih3 _ _ _ _ _ _
      | exact ih4 _ _ _ _ _ _ _ _
      | exact casementlaw16_awake.mono _
      | exact casementlaw16_where.mono _ _ _
      | exact casementref16_Place.mono _ _ _
      | exact LeO.none _
      | refine LeO.ite ?_ ?_
      | refine LeO.bind ?_ (fun _ => ?_)
    · intro y0 y1 y2
      unfold casementlaw16_OrderRaises.l0
      repeat' first
      | (with_reducible exact ih0 _ _ _)
      | (with_reducible exact ih1 _ _ _)
      | (with_reducible exact ih2 _ _ _ _ _ _)
      | (with_reducible exact ih3 _ _ _ _ _ _)
      | (with_reducible exact ih4 _ _ _ _ _ _ _ _)
      | (with_reducible exact casementlaw16_awake.mono _)
      | (with_reducible exact casementlaw16_where.mono _ _ _)
      | (with_reducible exact casementref16_Place.mono _ _ _)
      | (with_reducible exact LeO.refl _)
      | (with_reducible exact LeO.none _)
      | (with_reducible refine LeO.ite ?_ ?_)
      | (with_reducible refine LeO.bind ?_ (fun _ => ?_))
      | exact ih0 _ _ _
      | exact ih1 _ _ _
      | exact ih2 _ _ _ _ _ _
      | exact ih3 _ _ _ _ _ _
      | exact ih4 _ _ _ _ _ _ _ _
      | exact casementlaw16_awake.mono _
      | exact casementlaw16_where.mono _ _ _
      | exact casementref16_Place.mono _ _ _
      | exact LeO.none _
      | refine LeO.ite ?_ ?_
      | refine LeO.bind ?_ (fun _ => ?_)
    · intro y0 y1 y2 y3 y4 y5
      unfold casementlaw16_OrderRaises.j2
      repeat' first
      | (with_reducible exact ih0 _ _ _)
      | (with_reducible exact ih1 _ _ _)
      | (with_reducible exact ih2 _ _ _ _ _ _)
      | (with_reducible exact ih3 _ _ _ _ _ _)
      | (with_reducible exact ih4 _ _ _ _ _ _ _ _)
      | (with_reducible exact casementlaw16_awake.mono _)
      | (with_reducible exact casementlaw16_where.mono _ _ _)
      | (with_reducible exact casementref16_Place.mono _ _ _)
      | (with_reducible exact LeO.refl _)
      | (with_reducible exact LeO.none _)
      | (with_reducible refine LeO.ite ?_ ?_)
      | (with_reducible refine LeO.bind ?_ (fun _ => ?_))
      | exact ih0 _ _ _
      | exact ih1 _ _ _
      | exact ih2 _ _ _ _ _ _
      | exact ih3 _ _ _ _ _ _
      | exact ih4 _ _ _ _ _ _ _ _
      | exact casementlaw16_awake.mono _
      | exact casementlaw16_where.mono _ _ _
      | exact casementref16_Place.mono _ _ _
      | exact LeO.none _
      | refine LeO.ite ?_ ?_
      | refine LeO.bind ?_ (fun _ => ?_)
    · intro y0 y1 y2 y3 y4 y5
      unfold casementlaw16_OrderRaises.l1
      repeat' first
      | (with_reducible exact ih0 _ _ _)
      | (with_reducible exact ih1 _ _ _)
      | (with_reducible exact ih2 _ _ _ _ _ _)
      | (with_reducible exact ih3 _ _ _ _ _ _)
      | (with_reducible exact ih4 _ _ _ _ _ _ _ _)
      | (with_reducible exact casementlaw16_awake.mono _)
      | (with_reducible exact casementlaw16_where.mono _ _ _)
      | (with_reducible exact casementref16_Place.mono _ _ _)
      | (with_reducible exact LeO.refl _)
      | (with_reducible exact LeO.none _)
      | (with_reducible refine LeO.ite ?_ ?_)
      | (with_reducible refine LeO.bind ?_ (fun _ => ?_))
      | exact ih0 _ _ _
      | exact ih1 _ _ _
      | exact ih2 _ _ _ _ _ _
      | exact ih3 _ _ _ _ _ _
      | exact ih4 _ _ _ _ _ _ _ _
      | exact casementlaw16_awake.mono _
      | exact casementlaw16_where.mono _ _ _
      | exact casementref16_Place.mono _ _ _
      | exact LeO.none _
      | refine LeO.ite ?_ ?_
      | refine LeO.bind ?_ (fun _ => ?_)
    · intro y0 y1 y2 y3 y4 y5 y6 y7
      unfold casementlaw16_OrderRaises.l2
      repeat' first
      | (with_reducible exact ih0 _ _ _)
      | (with_reducible exact ih1 _ _ _)
      | (with_reducible exact ih2 _ _ _ _ _ _)
      | (with_reducible exact ih3 _ _ _ _ _ _)
      | (with_reducible exact ih4 _ _ _ _ _ _ _ _)
      | (with_reducible exact casementlaw16_awake.mono _)
      | (with_reducible exact casementlaw16_where.mono _ _ _)
      | (with_reducible exact casementref16_Place.mono _ _ _)
      | (with_reducible exact LeO.refl _)
      | (with_reducible exact LeO.none _)
      | (with_reducible refine LeO.ite ?_ ?_)
      | (with_reducible refine LeO.bind ?_ (fun _ => ?_))
      | exact ih0 _ _ _
      | exact ih1 _ _ _
      | exact ih2 _ _ _ _ _ _
      | exact ih3 _ _ _ _ _ _
      | exact ih4 _ _ _ _ _ _ _ _
      | exact casementlaw16_awake.mono _
      | exact casementlaw16_where.mono _ _ _
      | exact casementref16_Place.mono _ _ _
      | exact LeO.none _
      | refine LeO.ite ?_ ?_
      | refine LeO.bind ?_ (fun _ => ?_)
theorem casementlaw16_OrderRaises.mono : ∀ a0 a1 k, LeO (casementlaw16_OrderRaises.f k a0 a1) (casementlaw16_OrderRaises.f (k + 1) a0 a1) := by
  intro a0 a1 k
  obtain ⟨ih0, ih1, ih2, ih3, ih4⟩ := casementlaw16_OrderRaises.mono_l k
  unfold casementlaw16_OrderRaises.f
  repeat' first
      | (with_reducible exact ih0 _ _ _)
      | (with_reducible exact ih1 _ _ _)
      | (with_reducible exact ih2 _ _ _ _ _ _)
      | (with_reducible exact ih3 _ _ _ _ _ _)
      | (with_reducible exact ih4 _ _ _ _ _ _ _ _)
      | (with_reducible exact casementlaw16_awake.mono _)
      | (with_reducible exact casementlaw16_where.mono _ _ _)
      | (with_reducible exact casementref16_Place.mono _ _ _)
      | (with_reducible exact LeO.refl _)
      | (with_reducible exact LeO.none _)
      | (with_reducible refine LeO.ite ?_ ?_)
      | (with_reducible refine LeO.bind ?_ (fun _ => ?_))
      | exact ih0 _ _ _
      | exact ih1 _ _ _
      | exact ih2 _ _ _ _ _ _
      | exact ih3 _ _ _ _ _ _
      | exact ih4 _ _ _ _ _ _ _ _
      | exact casementlaw16_awake.mono _
      | exact casementlaw16_where.mono _ _ _
      | exact casementref16_Place.mono _ _ _
      | exact LeO.none _
      | refine LeO.ite ?_ ?_
      | refine LeO.bind ?_ (fun _ => ?_)
set_option maxHeartbeats 8000000 in
set_option maxRecDepth 100000 in
theorem casementlaw16_OrderRaises.calls (k : Nat) (A0 : Option Addr) (c0 : Nat) (l0 : List (S38)) (a1 : Int) (r : Bool) (w : World) (hr0 : Kd.C k38 w A0 l0.length l0) (hc0 : l0.length ≤ c0) (h : casementlaw16_OrderRaises.f k l0 a1 = some r) :
    Calls Try.prog 7 #[.slice A0 l0.length c0, .int .u64 a1] w fun e w' => e = .returned (.bool r) ∧ Below w.heap.size w w' := by
  have HR0 := Aside0.mk hr0
  have HC0 := Aside0.mk hc0
  clear hr0 hc0
  have HB := Aside0.mk (Below.refl w.heap.size w)
  have H : (if (l0.length : Int) = 0 then (casementlaw16_OrderRaises.j0 k l0 a1 true) else ((order_Check.f l0).bind fun t294 => (casementlaw16_OrderRaises.j0 k l0 a1 (t294 != 0)))) = some r := h
  clear h
  have HC3 := Aside0.mk H
  clear H
  go_enter Try.func7, Try.ntmps7
  go_upto_region 1 with (fail)
  repeat (go_quiet (fail); go_upto_region 1 with (fail))
  go_cut [22] (fun v22 wc => ∃ (kq : Nat) (x22_2 : Bool), v22 = .bool x22_2 ∧ Aside0 (casementlaw16_OrderRaises.j0 kq l0 a1 x22_2 = some r) ∧ Aside0 (kq ≤ k) ∧ Aside0 (Below w.heap.size w wc))
  case first =>
    have H := HC3.out
    clear HC3
    by_cases c4 : (l0.length : Int) = 0
    · rw [if_pos c4] at H
      have c4b0 : ((l0.length : Int) == 0) = true := beq_iff_eq.mpr c4
      have c4b1 : ((l0.length : Int) != 0) = false := bne_eq_false_iff_eq.mpr c4
      clear c4
      (first | rw [c4b0] | (simp only [i64_w, i32_w]; rw [c4b0]) | skip)
      have H' := Aside0.mk H
      clear H
      go_wp2
      repeat (go_quiet (fail); try go_wp2)
      go_meet
      case rel => exact ⟨_, (true), (by first | rfl | (simp; done) | (simp [*]; done) | (congr 2; generalize ByteArray.toList _ = l_; cases l_ <;> rfl)), H', ⟨by first | omega | exact Nat.le_refl _⟩, ⟨by repeat (first | (with_reducible first | exact HB.out | apply below_alloc | apply pw_below_drewN | apply below_drew1) | exact HB.out)⟩⟩
    · rw [if_neg c4] at H
      have c4b0 : ((l0.length : Int) == 0) = false := beq_eq_false_iff_ne.mpr c4
      have c4b1 : ((l0.length : Int) != 0) = true := bne_iff_ne.mpr c4
      have c4b2 : ¬ (l0 = []) := fun h_ => c4 (by rw [h_]; rfl)
      (first | rw [c4b0] | (simp only [i64_w, i32_w]; rw [c4b0]) | skip)
      replace H := Option.bind_eq_some_iff.mp H
      obtain ⟨t294, A50, H⟩ := H
      replace H : (casementlaw16_OrderRaises.j0 k l0 a1 (t294 != 0)) = some r := H
      have A5 := Aside0.mk A50
      clear A50
      have H' := Aside0.mk H
      clear H
      go_wp2_with (first | (go_at_call 9; (with_reducible refine (order_Check.calls _ _ l0 t294 _ ?side1 ?side2 A5.out).mono ?_); (case side1 => repeat (first | exact (Kd.C_below HR0.out HB.out) | (with_reducible refine Kd.C_alloc ?_ _) | (with_reducible refine Kd.C_drewN ?_ _) | (with_reducible refine Kd.C_drew ?_))); (case side2 => exact HC0.out); rintro e w6 ⟨rfl, hb⟩; have n0_ := Aside0.mk (below_step (by repeat (first | (with_reducible first | exact HB.out | apply below_alloc | apply pw_below_drewN | apply below_drew1) | exact HB.out)) hb); clear HB; have HB := n0_; clear n0_; (try clear hb); (try clear hb2); (try clear hk); (try clear hi)))
      repeat (go_quiet (first | (go_at_call 9; (with_reducible refine (order_Check.calls _ _ l0 t294 _ ?side1 ?side2 A5.out).mono ?_); (case side1 => repeat (first | exact (Kd.C_below HR0.out HB.out) | (with_reducible refine Kd.C_alloc ?_ _) | (with_reducible refine Kd.C_drewN ?_ _) | (with_reducible refine Kd.C_drew ?_))); (case side2 => exact HC0.out); rintro e w6 ⟨rfl, hb⟩; have n0_ := Aside0.mk (below_step (by repeat (first | (with_reducible first | exact HB.out | apply below_alloc | apply pw_below_drewN | apply below_drew1) | exact HB.out)) hb); clear HB; have HB := n0_; clear n0_; (try clear hb); (try clear hb2); (try clear hk); (try clear hi))); try go_wp2_with (first | (go_at_call 9; (with_reducible refine (order_Check.calls _ _ l0 t294 _ ?side1 ?side2 A5.out).mono ?_); (case side1 => repeat (first | exact (Kd.C_below HR0.out HB.out) | (with_reducible refine Kd.C_alloc ?_ _) | (with_reducible refine Kd.C_drewN ?_ _) | (with_reducible refine Kd.C_drew ?_))); (case side2 => exact HC0.out); rintro e w6 ⟨rfl, hb⟩; have n0_ := Aside0.mk (below_step (by repeat (first | (with_reducible first | exact HB.out | apply below_alloc | apply pw_below_drewN | apply below_drew1) | exact HB.out)) hb); clear HB; have HB := n0_; clear n0_; (try clear hb); (try clear hb2); (try clear hk); (try clear hi))))
      go_meet
      case rel => exact ⟨_, ((t294 != 0)), (by first | rfl | (simp; done) | (simp [*]; done) | (congr 2; generalize ByteArray.toList _ = l_; cases l_ <;> rfl)), H', ⟨by first | omega | exact Nat.le_refl _⟩, ⟨by repeat (first | (with_reducible first | exact HB.out | apply below_alloc | apply pw_below_drewN | apply below_drew1) | exact HB.out)⟩⟩
  case rest =>
    clear HC3
    try clear p2
    try clear c4
    try clear c4b0
    try clear c4b1
    try clear c4b2
    obtain ⟨kq, x22_2, rfl, HA, HJ2, HB⟩ := hcut
    cases kq with
    | zero => exact absurd HA.out (by simp [casementlaw16_OrderRaises.j0])
    | succ kj2 =>
      have H := HA.out
      clear HA
      simp only [casementlaw16_OrderRaises.j0] at H
      by_cases c7 : x22_2 = true
      · subst c7
        have H1 : ((casementlaw16_awake.f kj2).bind fun t295 => (some t295)) = some r := by rw [if_pos rfl] at H; exact H
        clear H
        have H := H1
        clear H1
        replace H := Option.bind_eq_some_iff.mp H
        obtain ⟨t295, A80, H⟩ := H
        replace H : (some t295) = some r := H
        have A8 := Aside0.mk A80
        clear A80
        obtain rfl := Option.some.inj H
        go_wp2_with (first | (go_at_call 16; (with_reducible refine (casementlaw16_awake.calls kj2  t295 _ A8.out).mono ?_); rintro e w9 ⟨rfl, hb⟩; have n0_ := Aside0.mk (below_step (by repeat (first | (with_reducible first | exact HB.out | apply below_alloc | apply pw_below_drewN | apply below_drew1) | exact HB.out)) hb); clear HB; have HB := n0_; clear n0_; (try clear hb); (try clear hb2); (try clear hk); (try clear hi)))
        repeat (go_quiet (first | (go_at_call 16; (with_reducible refine (casementlaw16_awake.calls kj2  t295 _ A8.out).mono ?_); rintro e w9 ⟨rfl, hb⟩; have n0_ := Aside0.mk (below_step (by repeat (first | (with_reducible first | exact HB.out | apply below_alloc | apply pw_below_drewN | apply below_drew1) | exact HB.out)) hb); clear HB; have HB := n0_; clear n0_; (try clear hb); (try clear hb2); (try clear hk); (try clear hi))); try go_wp2_with (first | (go_at_call 16; (with_reducible refine (casementlaw16_awake.calls kj2  t295 _ A8.out).mono ?_); rintro e w9 ⟨rfl, hb⟩; have n0_ := Aside0.mk (below_step (by repeat (first | (with_reducible first | exact HB.out | apply below_alloc | apply pw_below_drewN | apply below_drew1) | exact HB.out)) hb); clear HB; have HB := n0_; clear n0_; (try clear hb); (try clear hb2); (try clear hk); (try clear hi))))
        go_ret
        exact ⟨by first | rfl | (simp [errW_none, errW_some] <;> rfl) | (simp [*, errW_none, errW_some] <;> rfl), by repeat (first | (with_reducible first | exact HB.out | apply below_alloc | apply pw_below_drewN | apply below_drew1) | exact HB.out)⟩
      · replace c7 := Bool.eq_false_iff.mpr c7
        subst c7
        have H1 : (if (IntKind.u64.wrap ((l0.length : Int))) = 0 then (none) else ((some (([] : List (S38)) : List (S38))).bind fun y296 => (if y296.length + l0.length < 2932031007402 then (casementlaw16_OrderRaises.l0 kj2 (wrap64 (Int.tmod a1 (IntKind.u64.wrap ((l0.length : Int))))) (y296 ++ l0) 0) else (none)))) = some r := by rw [if_neg (show ¬ (false = true) by decide)] at H; exact H
        clear H
        have H := H1
        clear H1
        by_cases c10 : (IntKind.u64.wrap ((l0.length : Int))) = 0
        · rw [if_pos c10] at H
          exact absurd H (by simp)
        · rw [if_neg c10] at H
          have c10b0 : ((IntKind.u64.wrap ((l0.length : Int))) == 0) = false := beq_eq_false_iff_ne.mpr c10
          have c10b1 : ((IntKind.u64.wrap ((l0.length : Int))) != 0) = true := bne_iff_ne.mpr c10
          obtain ⟨y296, hy296⟩ : ∃ y_ : List (S38), y_ = (([] : List (S38))) := ⟨_, rfl⟩
          replace H : (if y296.length + l0.length < 2932031007402 then (casementlaw16_OrderRaises.l0 kj2 (wrap64 (Int.tmod a1 (IntKind.u64.wrap ((l0.length : Int))))) (y296 ++ l0) 0) else (none)) = some r := by first | (rw [hy296]; with_reducible exact H) | (have H2_ := (Option.bind_some _ _).symm.trans H; rw [hy296]; with_reducible exact H2_) | (have H2_ := (Option.bind_some _ _).symm.trans H; with_reducible exact H2_) | with_reducible exact H | (rw [hy296]; exact H) | exact H
          have Ny296 := Aside0.mk hy296
          clear hy296
          by_cases c11 : y296.length + l0.length < 2932031007402
          · rw [if_pos c11] at H
            have LMc11 := Aside0.mk c11
            clear c11
            obtain ⟨y299, hy299⟩ : ∃ y_ : List (S38), y_ = (y296 ++ l0) := ⟨_, rfl⟩
            replace H : (casementlaw16_OrderRaises.l0 kj2 (wrap64 (Int.tmod a1 (IntKind.u64.wrap ((l0.length : Int))))) y299 0) = some r := by first | (rw [hy299]; with_reducible exact H) | (have H2_ := (Option.bind_some _ _).symm.trans H; rw [hy299]; with_reducible exact H2_) | (have H2_ := (Option.bind_some _ _).symm.trans H; with_reducible exact H2_) | with_reducible exact H | (rw [hy299]; exact H) | exact H
            have Ny299 := Aside0.mk hy299
            clear hy299
            have H' := Aside0.mk H
            clear H
            go_wp2_with (first | ((with_reducible refine gate_dst (N := 30) rfl ?_); (try (refine gate_guard (by rfl) ?_; dsimp only)); refine Kd.R_lit k38 _ 38 ?hg (N := 30) ?hd (xs := ([] : List (S38))) (inner := []) (ok := fun _ => True) (okp := fun _ => True) ?hr ?hp (fun _ hk => hk) trivial (Below.refl _ _) (Nat.le_refl _) (by simp) ?_; (case hd => rfl); (case hg => rfl); (case hr => first | (go_simp; done) | (go_simp; rfl)); (case hp => exact (Reps.none _ _)); intro v297 w12 ho13 hb hg_ hnew_; clear hg_ hnew_; (first | rw [← Ny296.out] at ho13 | (simp only [Int.reduceToNat] at ho13; rw [← Ny296.out] at ho13)); have n0_ := Aside0.mk (Kd.R_lower ho13 (below_size (by repeat (first | (with_reducible first | exact HB.out | apply below_alloc | apply pw_below_drewN | apply below_drew1) | exact HB.out)))); have n1_ := Aside0.mk (below_step (by repeat (first | (with_reducible first | exact HB.out | apply below_alloc | apply pw_below_drewN | apply below_drew1) | exact HB.out)) hb); clear HB; have HO298 := n0_; have HB := n1_; clear n0_ n1_; clear hb ho13) | ((with_reducible refine gate_builtin (b := .append) (xs := #[.tmp 30, .tmp 31]) rfl ?_); (try (refine gate_guard (by rfl) ?_; dsimp only)); at_builtin; refine Kd.R_append_rows k38 (w0 := w) w.heap.size rfl (.tmp 30) (.tmp 31) 22 38 (.agg #[(.int .i64 0), (.int .i64 0), (.int .i64 0), (.bool false), (.int .i64 0), (.int .i64 0)]) 48 rfl Try.underlying22 info38 rfl (by decide) (by omega) v297 y296 l0 _ _ _ (fun _ => True) (fun _ => False) rfl rfl ?aO ?aR (fun _ _ h => h) (fun _ h => h.elim) ?aF ?aB ?aS ?aL ?_; (case aR => repeat (first | exact (Kd.C_below HR0.out HB.out) | (with_reducible refine Kd.C_alloc ?_ _) | (with_reducible refine Kd.C_drewN ?_ _) | (with_reducible refine Kd.C_drew ?_))); (case aB => exact (by repeat (first | (with_reducible first | exact HB.out | apply below_alloc | apply pw_below_drewN | apply below_drew1) | exact HB.out))); (case aF => exact (fun _ _ => trivial)); (case aO => exact (by (with_reducible repeat (first | apply Kd.R_alloc | apply Kd.R_drewN | apply Kd.R_drew)); exact HO298.out)); (case aS => exact (below_size (by repeat (first | (with_reducible first | exact HB.out | apply below_alloc | apply pw_below_drewN | apply below_drew1) | exact HB.out)))); (case aL => have := LMc11.out; omega); intro v300 w14 ho hb hg hat; rw [← Ny299.out] at ho; have n0_ := Aside0.mk (hb); have n1_ := Aside0.mk (ho); clear HB; clear HO298; have HB := n0_; have HO301 := n1_; clear n0_ n1_; clear ho hb hg hat))
            repeat (go_quiet (first | ((with_reducible refine gate_dst (N := 30) rfl ?_); (try (refine gate_guard (by rfl) ?_; dsimp only)); refine Kd.R_lit k38 _ 38 ?hg (N := 30) ?hd (xs := ([] : List (S38))) (inner := []) (ok := fun _ => True) (okp := fun _ => True) ?hr ?hp (fun _ hk => hk) trivial (Below.refl _ _) (Nat.le_refl _) (by simp) ?_; (case hd => rfl); (case hg => rfl); (case hr => first | (go_simp; done) | (go_simp; rfl)); (case hp => exact (Reps.none _ _)); intro v297 w12 ho13 hb hg_ hnew_; clear hg_ hnew_; (first | rw [← Ny296.out] at ho13 | (simp only [Int.reduceToNat] at ho13; rw [← Ny296.out] at ho13)); have n0_ := Aside0.mk (Kd.R_lower ho13 (below_size (by repeat (first | (with_reducible first | exact HB.out | apply below_alloc | apply pw_below_drewN | apply below_drew1) | exact HB.out)))); have n1_ := Aside0.mk (below_step (by repeat (first | (with_reducible first | exact HB.out | apply below_alloc | apply pw_below_drewN | apply below_drew1) | exact HB.out)) hb); clear HB; have HO298 := n0_; have HB := n1_; clear n0_ n1_; clear hb ho13) | ((with_reducible refine gate_builtin (b := .append) (xs := #[.tmp 30, .tmp 31]) rfl ?_); (try (refine gate_guard (by rfl) ?_; dsimp only)); at_builtin; refine Kd.R_append_rows k38 (w0 := w) w.heap.size rfl (.tmp 30) (.tmp 31) 22 38 (.agg #[(.int .i64 0), (.int .i64 0), (.int .i64 0), (.bool false), (.int .i64 0), (.int .i64 0)]) 48 rfl Try.underlying22 info38 rfl (by decide) (by omega) v297 y296 l0 _ _ _ (fun _ => True) (fun _ => False) rfl rfl ?aO ?aR (fun _ _ h => h) (fun _ h => h.elim) ?aF ?aB ?aS ?aL ?_; (case aR => repeat (first | exact (Kd.C_below HR0.out HB.out) | (with_reducible refine Kd.C_alloc ?_ _) | (with_reducible refine Kd.C_drewN ?_ _) | (with_reducible refine Kd.C_drew ?_))); (case aB => exact (by repeat (first | (with_reducible first | exact HB.out | apply below_alloc | apply pw_below_drewN | apply below_drew1) | exact HB.out))); (case aF => exact (fun _ _ => trivial)); (case aO => exact (by (with_reducible repeat (first | apply Kd.R_alloc | apply Kd.R_drewN | apply Kd.R_drew)); exact HO298.out)); (case aS => exact (below_size (by repeat (first | (with_reducible first | exact HB.out | apply below_alloc | apply pw_below_drewN | apply below_drew1) | exact HB.out)))); (case aL => have := LMc11.out; omega); intro v300 w14 ho hb hg hat; rw [← Ny299.out] at ho; have n0_ := Aside0.mk (hb); have n1_ := Aside0.mk (ho); clear HB; clear HO298; have HB := n0_; have HO301 := n1_; clear n0_ n1_; clear ho hb hg hat)); try go_wp2_with (first | ((with_reducible refine gate_dst (N := 30) rfl ?_); (try (refine gate_guard (by rfl) ?_; dsimp only)); refine Kd.R_lit k38 _ 38 ?hg (N := 30) ?hd (xs := ([] : List (S38))) (inner := []) (ok := fun _ => True) (okp := fun _ => True) ?hr ?hp (fun _ hk => hk) trivial (Below.refl _ _) (Nat.le_refl _) (by simp) ?_; (case hd => rfl); (case hg => rfl); (case hr => first | (go_simp; done) | (go_simp; rfl)); (case hp => exact (Reps.none _ _)); intro v297 w12 ho13 hb hg_ hnew_; clear hg_ hnew_; (first | rw [← Ny296.out] at ho13 | (simp only [Int.reduceToNat] at ho13; rw [← Ny296.out] at ho13)); have n0_ := Aside0.mk (Kd.R_lower ho13 (below_size (by repeat (first | (with_reducible first | exact HB.out | apply below_alloc | apply pw_below_drewN | apply below_drew1) | exact HB.out)))); have n1_ := Aside0.mk (below_step (by repeat (first | (with_reducible first | exact HB.out | apply below_alloc | apply pw_below_drewN | apply below_drew1) | exact HB.out)) hb); clear HB; have HO298 := n0_; have HB := n1_; clear n0_ n1_; clear hb ho13) | ((with_reducible refine gate_builtin (b := .append) (xs := #[.tmp 30, .tmp 31]) rfl ?_); (try (refine gate_guard (by rfl) ?_; dsimp only)); at_builtin; refine Kd.R_append_rows k38 (w0 := w) w.heap.size rfl (.tmp 30) (.tmp 31) 22 38 (.agg #[(.int .i64 0), (.int .i64 0), (.int .i64 0), (.bool false), (.int .i64 0), (.int .i64 0)]) 48 rfl Try.underlying22 info38 rfl (by decide) (by omega) v297 y296 l0 _ _ _ (fun _ => True) (fun _ => False) rfl rfl ?aO ?aR (fun _ _ h => h) (fun _ h => h.elim) ?aF ?aB ?aS ?aL ?_; (case aR => repeat (first | exact (Kd.C_below HR0.out HB.out) | (with_reducible refine Kd.C_alloc ?_ _) | (with_reducible refine Kd.C_drewN ?_ _) | (with_reducible refine Kd.C_drew ?_))); (case aB => exact (by repeat (first | (with_reducible first | exact HB.out | apply below_alloc | apply pw_below_drewN | apply below_drew1) | exact HB.out))); (case aF => exact (fun _ _ => trivial)); (case aO => exact (by (with_reducible repeat (first | apply Kd.R_alloc | apply Kd.R_drewN | apply Kd.R_drew)); exact HO298.out)); (case aS => exact (below_size (by repeat (first | (with_reducible first | exact HB.out | apply below_alloc | apply pw_below_drewN | apply below_drew1) | exact HB.out)))); (case aL => have := LMc11.out; omega); intro v300 w14 ho hb hg hat; rw [← Ny299.out] at ho; have n0_ := Aside0.mk (hb); have n1_ := Aside0.mk (ho); clear HB; clear HO298; have HB := n0_; have HO301 := n1_; clear n0_ n1_; clear ho hb hg hat)))
            go_loopg [7] kj2 (fun kq v7 w' => ∃ (x7_2 : Int), v7 = .int .i64 x7_2 ∧ Aside0 (casementlaw16_OrderRaises.l0 kq (wrap64 (Int.tmod a1 (IntKind.u64.wrap ((l0.length : Int))))) y299 x7_2 = some r) ∧ Aside0 (kq ≤ kj2) ∧ Aside0 (Kd.R k38 38 w' w.heap.size (fun _ => True) v300 y299) ∧ Aside0 (Below w.heap.size w w'))
            case atStart => exact ⟨(0), (by first | rfl | (simp; done) | (simp [*]; done) | (congr 2; generalize ByteArray.toList _ = l_; cases l_ <;> rfl)), H', ⟨Nat.le_refl _⟩, ⟨by (with_reducible repeat (first | apply Kd.R_alloc | apply Kd.R_drewN | apply Kd.R_drew)); exact HO301.out⟩, ⟨by repeat (first | (with_reducible first | exact HB.out | apply below_alloc | apply pw_below_drewN | apply below_drew1) | exact HB.out)⟩⟩
            case round =>
              clear H'
              try clear c1
              try clear p2
              try clear c4
              try clear c4b0
              try clear c4b1
              try clear c4b2
              try clear p6
              try clear c7
              try clear c10
              try clear c10b0
              try clear c10b1
              try clear c11
              try clear p2
              obtain ⟨x7_2, rfl, HA, HK2, HO_6, HB⟩ := hrel
              cases gk with
              | zero => exact absurd HA.out (by simp [casementlaw16_OrderRaises.l0])
              | succ k2 =>
                have H := HA.out
                clear HA
                simp only [casementlaw16_OrderRaises.l0] at H
                by_cases c15 : x7_2 < (y299.length : Int)
                · rw [if_pos c15] at H
                  have c15b0 : decide (x7_2 < (y299.length : Int)) = true := decide_eq_true c15
                  clear c15
                  by_cases c16 : 0 ≤ x7_2
                  · rw [if_pos c16] at H
                    have c16b0 : decide (0 ≤ x7_2) = true := decide_eq_true c16
                    clear c16
                    by_cases c17 : ((rd_T38 y299 x7_2).f4) > 1099511627776
                    · rw [if_pos c17] at H
                      have c17b0 : decide (1099511627776 < ((rd_T38 y299 x7_2).f4)) = true := decide_eq_true c17
                      clear c17
                      replace H := Option.bind_eq_some_iff.mp H
                      obtain ⟨t303, A180, H⟩ := H
                      replace H : (some t303) = some r := H
                      have A18 := Aside0.mk A180
                      clear A180
                      obtain rfl := Option.some.inj H
                      obtain ⟨Ao19, co19, eo19⟩ := Kd.R_slice HO_6.out
                      subst eo19
                      have p302 : 0 ≤ (x7_2 : Int) := of_decide_eq_true (by first | (with_reducible assumption) | assumption)
                      have q302 : x7_2 < (y299.length : Int) := of_decide_eq_true (by first | (with_reducible assumption) | assumption)
                      obtain ⟨ad302, e302, hx302_0, hx302_1, hx302_2, hx302_3, hx302_4, hx302_5⟩ := at_T38 (Kd.R_reads' HO_6.out).2.2 x7_2 p302 q302
                      cases e302
                      replace p302 := eq_true p302
                      replace q302 := eq_true q302
                      go_wp2_with (first | (go_at_call 16; (with_reducible refine (casementlaw16_awake.calls k2  t303 _ A18.out).mono ?_); rintro e w20 ⟨rfl, hb⟩; have n0_ := Aside0.mk (Kd.R_below (by (with_reducible repeat (first | apply Kd.R_alloc | apply Kd.R_drewN | apply Kd.R_drew)); exact HO_6.out) hb); have n1_ := Aside0.mk (below_step (by repeat (first | (with_reducible first | exact HB.out | apply below_alloc | apply pw_below_drewN | apply below_drew1) | exact HB.out)) hb); clear HO_6; clear HB; have HO_6 := n0_; have HB := n1_; clear n0_ n1_; (try clear hb); (try clear hb2); (try clear hk); (try clear hi)))
                      repeat (go_quiet (first | (go_at_call 16; (with_reducible refine (casementlaw16_awake.calls k2  t303 _ A18.out).mono ?_); rintro e w20 ⟨rfl, hb⟩; have n0_ := Aside0.mk (Kd.R_below (by (with_reducible repeat (first | apply Kd.R_alloc | apply Kd.R_drewN | apply Kd.R_drew)); exact HO_6.out) hb); have n1_ := Aside0.mk (below_step (by repeat (first | (with_reducible first | exact HB.out | apply below_alloc | apply pw_below_drewN | apply below_drew1) | exact HB.out)) hb); clear HO_6; clear HB; have HO_6 := n0_; have HB := n1_; clear n0_ n1_; (try clear hb); (try clear hb2); (try clear hk); (try clear hi))); try go_wp2_with (first | (go_at_call 16; (with_reducible refine (casementlaw16_awake.calls k2  t303 _ A18.out).mono ?_); rintro e w20 ⟨rfl, hb⟩; have n0_ := Aside0.mk (Kd.R_below (by (with_reducible repeat (first | apply Kd.R_alloc | apply Kd.R_drewN | apply Kd.R_drew)); exact HO_6.out) hb); have n1_ := Aside0.mk (below_step (by repeat (first | (with_reducible first | exact HB.out | apply below_alloc | apply pw_below_drewN | apply below_drew1) | exact HB.out)) hb); clear HO_6; clear HB; have HO_6 := n0_; have HB := n1_; clear n0_ n1_; (try clear hb); (try clear hb2); (try clear hk); (try clear hi))))
                      go_ret
                      exact ⟨by first | rfl | (simp [errW_none, errW_some] <;> rfl) | (simp [*, errW_none, errW_some] <;> rfl), by repeat (first | (with_reducible first | exact HB.out | apply below_alloc | apply pw_below_drewN | apply below_drew1) | exact HB.out)⟩
                    · rw [if_neg c17] at H
                      have c17b0 : decide (1099511627776 < ((rd_T38 y299 x7_2).f4)) = false := decide_eq_false c17
                      clear c17
                      have H' := Aside0.mk H
                      clear H
                      obtain ⟨Ao21, co21, eo21⟩ := Kd.R_slice HO_6.out
                      subst eo21
                      have p302 : 0 ≤ (x7_2 : Int) := of_decide_eq_true (by first | (with_reducible assumption) | assumption)
                      have q302 : x7_2 < (y299.length : Int) := of_decide_eq_true (by first | (with_reducible assumption) | assumption)
                      obtain ⟨ad302, e302, hx302_0, hx302_1, hx302_2, hx302_3, hx302_4, hx302_5⟩ := at_T38 (Kd.R_reads' HO_6.out).2.2 x7_2 p302 q302
                      cases e302
                      replace p302 := eq_true p302
                      replace q302 := eq_true q302
                      go_wp2
                      repeat (go_quiet (fail); try go_wp2)
                      go_roundg k2
                      case measure => have := HJ2.out; have := HK2.out; omega
                      case rel => exact ⟨(wrap64 (x7_2 + 1)), (by first | rfl | (simp; done) | (simp [*]; done) | (congr 2; generalize ByteArray.toList _ = l_; cases l_ <;> rfl)), H', ⟨by have := HJ2.out; have := HK2.out; omega⟩, ⟨by (with_reducible repeat (first | apply Kd.R_alloc | apply Kd.R_drewN | apply Kd.R_drew)); exact HO_6.out⟩, ⟨by repeat (first | (with_reducible first | exact HB.out | apply below_alloc | apply pw_below_drewN | apply below_drew1) | exact HB.out)⟩⟩
                  · rw [if_neg c16] at H
                    exact absurd H (by simp)
                · rw [if_neg c15] at H
                  have c15b0 : decide (x7_2 < (y299.length : Int)) = false := decide_eq_false c15
                  clear c15
                  obtain ⟨ji22, hji22⟩ : ∃ j_ : Int, (wrap64 (Int.tmod a1 (IntKind.u64.wrap ((l0.length : Int))))) = j_ := ⟨_, rfl⟩
                  replace H : (if 0 ≤ (ji22) then (if (ji22) < (y299.length : Int) then ((some (y299.set ((ji22) : Int).toNat (⟨(rd_T38 y299 (ji22)).f0, (rd_T38 y299 (ji22)).f1, (rd_T38 y299 (ji22)).f2, (rd_T38 y299 (ji22)).f3, 1099511627777, (rd_T38 y299 (ji22)).f5⟩ : S38) : List (S38))).bind fun y304 => ((order_Order.f y304).bind fun bt305 => ((order_Owners.f y304).bind fun t309 => ((order_Bands.f y304).bind fun t312 => (if bt305.2 = 0 then (if (t309.length : Int) = (y299.length : Int) then (casementlaw16_OrderRaises.j2 k2 (ji22) y304 bt305.1 t309 t312 ((t312.length : Int) != (y299.length : Int))) else (casementlaw16_OrderRaises.j2 k2 (ji22) y304 bt305.1 t309 t312 true)) else (casementlaw16_OrderRaises.j2 k2 (ji22) y304 bt305.1 t309 t312 true)))))) else (none)) else (none)) = some r := by first | (rw [hji22] at H; exact H) | (simp only [hji22] at H ⊢; exact H)
                  have hji22w : (IntKind.i64.wrap (Int.tmod a1 (IntKind.u64.wrap ((l0.length : Int))))) = ji22 := (i64_w _).trans hji22
                  by_cases c23 : 0 ≤ (ji22)
                  · rw [if_pos c23] at H
                    have c23b0 : decide (0 ≤ (ji22)) = true := decide_eq_true c23
                    clear c23
                    by_cases c24 : (ji22) < (y299.length : Int)
                    · rw [if_pos c24] at H
                      have c24b0 : decide ((ji22) < (y299.length : Int)) = true := decide_eq_true c24
                      clear c24
                      obtain ⟨y304, hy304⟩ : ∃ y_ : List (S38), y_ = (y299.set ((ji22) : Int).toNat (⟨(rd_T38 y299 (ji22)).f0, (rd_T38 y299 (ji22)).f1, (rd_T38 y299 (ji22)).f2, (rd_T38 y299 (ji22)).f3, 1099511627777, (rd_T38 y299 (ji22)).f5⟩ : S38)) := ⟨_, rfl⟩
                      replace H : ((order_Order.f y304).bind fun bt305 => ((order_Owners.f y304).bind fun t309 => ((order_Bands.f y304).bind fun t312 => (if bt305.2 = 0 then (if (t309.length : Int) = (y299.length : Int) then (casementlaw16_OrderRaises.j2 k2 (ji22) y304 bt305.1 t309 t312 ((t312.length : Int) != (y299.length : Int))) else (casementlaw16_OrderRaises.j2 k2 (ji22) y304 bt305.1 t309 t312 true)) else (casementlaw16_OrderRaises.j2 k2 (ji22) y304 bt305.1 t309 t312 true))))) = some r := by first | (rw [hy304]; with_reducible exact H) | (have H2_ := (Option.bind_some _ _).symm.trans H; rw [hy304]; with_reducible exact H2_) | (have H2_ := (Option.bind_some _ _).symm.trans H; with_reducible exact H2_) | with_reducible exact H | (rw [hy304]; exact H) | exact H
                      have Ny304 := Aside0.mk hy304
                      clear hy304
                      replace H := Option.bind_eq_some_iff.mp H
                      obtain ⟨⟨t305, t306⟩, A260, H⟩ := H
                      replace H : ((order_Owners.f y304).bind fun t309 => ((order_Bands.f y304).bind fun t312 => (if t306 = 0 then (if (t309.length : Int) = (y299.length : Int) then (casementlaw16_OrderRaises.j2 k2 (ji22) y304 t305 t309 t312 ((t312.length : Int) != (y299.length : Int))) else (casementlaw16_OrderRaises.j2 k2 (ji22) y304 t305 t309 t312 true)) else (casementlaw16_OrderRaises.j2 k2 (ji22) y304 t305 t309 t312 true)))) = some r := H
                      have A26 := Aside0.mk A260
                      clear A260
                      replace H := Option.bind_eq_some_iff.mp H
                      obtain ⟨t309, A270, H⟩ := H
                      replace H : ((order_Bands.f y304).bind fun t312 => (if t306 = 0 then (if (t309.length : Int) = (y299.length : Int) then (casementlaw16_OrderRaises.j2 k2 (ji22) y304 t305 t309 t312 ((t312.length : Int) != (y299.length : Int))) else (casementlaw16_OrderRaises.j2 k2 (ji22) y304 t305 t309 t312 true)) else (casementlaw16_OrderRaises.j2 k2 (ji22) y304 t305 t309 t312 true))) = some r := H
                      have A27 := Aside0.mk A270
                      clear A270
                      replace H := Option.bind_eq_some_iff.mp H
                      obtain ⟨t312, A280, H⟩ := H
                      replace H : (if t306 = 0 then (if (t309.length : Int) = (y299.length : Int) then (casementlaw16_OrderRaises.j2 k2 (ji22) y304 t305 t309 t312 ((t312.length : Int) != (y299.length : Int))) else (casementlaw16_OrderRaises.j2 k2 (ji22) y304 t305 t309 t312 true)) else (casementlaw16_OrderRaises.j2 k2 (ji22) y304 t305 t309 t312 true)) = some r := H
                      have A28 := Aside0.mk A280
                      clear A280
                      have HC29 := Aside0.mk H
                      clear H
                      obtain ⟨Ao30, co30, eo30⟩ := Kd.R_slice HO_6.out
                      subst eo30
                      have p25 : 0 ≤ ((ji22) : Int) := of_decide_eq_true (by first | (with_reducible assumption) | assumption)
                      have q25 : ((ji22) : Int) < ((y299.length : Int) : Int) := of_decide_eq_true (by first | (with_reducible assumption) | assumption)
                      obtain ⟨go25, co25, eo25, gb25, gl25, cl25, HG25⟩ := Kd.R_form HO_6.out (by omega)
                      (first | cases eo25 | (injection eo25 with ea_ en_ ec_; (first | subst ea_ | (injection ea_ with ea_; subst ea_)); subst ec_; clear en_))
                      have GB25 := Aside0.mk gb25
                      have GG25 := Aside0.mk HG25
                      clear gb25 gl25 HG25
                      obtain ⟨ce25, hcl25, hM25, hcc25, hfr25⟩ := Kd.R_elem HO_6.out z38 ((ji22) : Int) p25 q25
                      obtain rfl := k38_openM hM25
                      have hx25_0 : wr.cell? ⟨go25, ((ji22) : Int).toNat * 6, none⟩ = some (.int .i64 ((rd_T38 y299 (ji22)).f0)) := hcc25 0 _ rfl
                      have hx25_1 : wr.cell? ⟨go25, ((ji22) : Int).toNat * 6 + 1, none⟩ = some (.int .i64 ((rd_T38 y299 (ji22)).f1)) := hcc25 1 _ rfl
                      have hx25_2 : wr.cell? ⟨go25, ((ji22) : Int).toNat * 6 + 2, none⟩ = some (.int .i64 ((rd_T38 y299 (ji22)).f2)) := hcc25 2 _ rfl
                      have hx25_3 : wr.cell? ⟨go25, ((ji22) : Int).toNat * 6 + 3, none⟩ = some (.bool ((rd_T38 y299 (ji22)).f3)) := hcc25 3 _ rfl
                      have hx25_4 : wr.cell? ⟨go25, ((ji22) : Int).toNat * 6 + 4, none⟩ = some (.int .i64 ((rd_T38 y299 (ji22)).f4)) := hcc25 4 _ rfl
                      have hx25_5 : wr.cell? ⟨go25, ((ji22) : Int).toNat * 6 + 5, none⟩ = some (.int .i64 ((rd_T38 y299 (ji22)).f5)) := hcc25 5 _ rfl
                      have hf25_0 : wr.frozen? ⟨go25, ((ji22) : Int).toNat * 6, none⟩ = false := hfr25 0
                      have hf25_1 : wr.frozen? ⟨go25, ((ji22) : Int).toNat * 6 + 1, none⟩ = false := hfr25 1
                      have hf25_2 : wr.frozen? ⟨go25, ((ji22) : Int).toNat * 6 + 2, none⟩ = false := hfr25 2
                      have hf25_3 : wr.frozen? ⟨go25, ((ji22) : Int).toNat * 6 + 3, none⟩ = false := hfr25 3
                      have hf25_4 : wr.frozen? ⟨go25, ((ji22) : Int).toNat * 6 + 4, none⟩ = false := hfr25 4
                      have hf25_5 : wr.frozen? ⟨go25, ((ji22) : Int).toNat * 6 + 5, none⟩ = false := hfr25 5
                      clear hcl25 hcc25 hfr25 hM25
                      replace p25 := eq_true p25
                      replace q25 := eq_true q25
                      have HX31 := Aside0.mk (show Kd.R k38 38 wr w.heap.size (fun _ => True) (.slice (some ⟨go25, 0, none⟩) y299.length co30) y299 from (by (with_reducible repeat (first | apply Kd.R_alloc | apply Kd.R_drewN | apply Kd.R_drew)); exact HO_6.out))
                      obtain ⟨ce31, hcl31, hM31, hcc31, hfr31⟩ := Kd.R_elem HX31.out z38 ((ji22) : Int) (of_decide_eq_true (by first | (with_reducible assumption) | assumption)) (by have h_ : ((ji22) : Int) < ((y299.length : Int) : Int) := of_decide_eq_true (by first | (with_reducible assumption) | assumption); first | exact h_ | (have e_ := (Kd.R_reads' HO_6.out).1; omega) | simpa using h_)
                      obtain rfl := k38_openM hM31
                      have HP31 := Kd.R_seg HX31.out ((ji22) : Int) (of_decide_eq_true (by first | (with_reducible assumption) | assumption)) (by have h_ : ((ji22) : Int) < ((y299.length : Int) : Int) := of_decide_eq_true (by first | (with_reducible assumption) | assumption); first | exact h_ | (have e_ := (Kd.R_reads' HO_6.out).1; omega) | simpa using h_) (seg := [.int .i64 1099511627777]) (j := 4) hcl31 hcc31 (show 5 ≤ 6 from by decide) (x' := (⟨(rd_T38 y299 (ji22)).f0, (rd_T38 y299 (ji22)).f1, (rd_T38 y299 (ji22)).f2, (rd_T38 y299 (ji22)).f3, 1099511627777, (rd_T38 y299 (ji22)).f5⟩ : S38)) (k38_mkM _ _ _ (⟨(rd_T38 y299 (ji22)).f0, (rd_T38 y299 (ji22)).f1, (rd_T38 y299 (ji22)).f2, (rd_T38 y299 (ji22)).f3, 1099511627777, (rd_T38 y299 (ji22)).f5⟩ : S38) ) (fun _ hk => hk)
                      have hx31_4 := hcc31 4 _ rfl
                      (try simp only [show (k38).sz = 6 from rfl, Nat.mul_one, Nat.add_zero] at hx31_4)
                      have hf31_4 := hfr31 4
                      (try simp only [show (k38).sz = 6 from rfl, Nat.mul_one, Nat.add_zero] at hf31_4)
                      clear hcl31 hcc31 hfr31 hM31
                      go_upto_region 13 with (first | ((with_reducible refine gate_store (t := 3) (p := 49) rfl ?_); (try (rw [drewN_self wr]; generalize hq_ : World.drewN wr _ = wr; have n0_ := Aside0.mk (Kd.R_at hq_ HO_6.out); have n1_ := Aside0.mk (below_at hq_ HB.out); clear hq_ HO_6 HB; have HO_6 := n0_; have HB := n1_; clear n0_ n1_; (try (have HX31 := Aside0.mk (show Kd.R k38 38 wr w.heap.size (fun _ => True) (.slice (some ⟨go25, 0, none⟩) y299.length co30) y299 from (by (with_reducible repeat (first | apply Kd.R_alloc | apply Kd.R_drewN | apply Kd.R_drew)); exact HO_6.out)))); (try (obtain ⟨ce31, hcl31, hM31, hcc31, hfr31⟩ := Kd.R_elem HX31.out z38 ((ji22) : Int) (of_decide_eq_true (by first | (with_reducible assumption) | assumption)) (by have h_ : ((ji22) : Int) < ((y299.length : Int) : Int) := of_decide_eq_true (by first | (with_reducible assumption) | assumption); first | exact h_ | (have e_ := (Kd.R_reads' HO_6.out).1; omega) | simpa using h_))); (try (obtain rfl := k38_openM hM31)); (try (have HP31 := Kd.R_seg HX31.out ((ji22) : Int) (of_decide_eq_true (by first | (with_reducible assumption) | assumption)) (by have h_ : ((ji22) : Int) < ((y299.length : Int) : Int) := of_decide_eq_true (by first | (with_reducible assumption) | assumption); first | exact h_ | (have e_ := (Kd.R_reads' HO_6.out).1; omega) | simpa using h_) (seg := [.int .i64 1099511627777]) (j := 4) hcl31 hcc31 (show 5 ≤ 6 from by decide) (x' := (⟨(rd_T38 y299 (ji22)).f0, (rd_T38 y299 (ji22)).f1, (rd_T38 y299 (ji22)).f2, (rd_T38 y299 (ji22)).f3, 1099511627777, (rd_T38 y299 (ji22)).f5⟩ : S38)) (k38_mkM _ _ _ (⟨(rd_T38 y299 (ji22)).f0, (rd_T38 y299 (ji22)).f1, (rd_T38 y299 (ji22)).f2, (rd_T38 y299 (ji22)).f3, 1099511627777, (rd_T38 y299 (ji22)).f5⟩ : S38) ) (fun _ hk => hk))); (try (have hx31_4 := hcc31 4 _ rfl)); (try (try simp only [show (k38).sz = 6 from rfl, Nat.mul_one, Nat.add_zero] at hx31_4)); (try (have hf31_4 := hfr31 4)); (try (try simp only [show (k38).sz = 6 from rfl, Nat.mul_one, Nat.add_zero] at hf31_4)); (try (clear hcl31 hcc31 hfr31 hM31)))); refine store_event (t := 3) (p := 49) (v := ?vo_w32) (w1 := (wr.setCell ⟨go25, ((ji22) : Int).toNat * 6 + 4, none⟩ (.int .i64 1099511627777))) ?hg ?ho ?hn ?hr ?_; (case ho => rfl); (case hg => rfl); (case hn => rfl); (case hr => first | (go_simp; done) | (go_simp; rfl)); intro w32 hw; have hg : wr.grownBy w32 (some go25) := (by rw [hw]; exact HP31.2); have hp_ : Kd.R k38 38 w32 w.heap.size (fun _ => True) (.slice (some ⟨go25, 0, none⟩) y299.length co30) y304 := (by rw [hw, Ny304.out]; exact HP31.1); clear HP31; have n0_ := Aside0.mk (hp_); have n1_ := Aside0.mk ((by rw [hw]; exact below_set (HB.out) GB25.out : Below w.heap.size w w32)); clear HO_6; clear HB; have HO_6 := n0_; have HB := n1_; clear n0_ n1_; clear hg hw hp_) | (go_at_call 17; refine calls_of_args (args' := #[.slice (some ⟨go25, 0, none⟩) y304.length co30]) (by first | (rw [show y304.length = y299.length from (Kd.R_reads' HO_6.out).1.symm] <;> rfl) | rfl) ?_; (with_reducible refine (order_Order.calls _ _ y304 t305 t306 _ ?side1 ?side2 A26.out).mono ?_); (case side1 => repeat (first | exact (Kd.R_reads' HO_6.out).2.2 | (with_reducible refine Kd.C_alloc ?_ _) | (with_reducible refine Kd.C_drewN ?_ _) | (with_reducible refine Kd.C_drew ?_))); (case side2 => rw [show y304.length = y299.length from (Kd.R_reads' HO_6.out).1.symm]; exact (Kd.R_reads' HO_6.out).2.1); rintro e w33 ⟨v307, rfl, ho0, hb⟩; have n0_ := Aside0.mk (Kd.R_below (by (with_reducible repeat (first | apply Kd.R_alloc | apply Kd.R_drewN | apply Kd.R_drew)); exact HO_6.out) hb); have n1_ := Aside0.mk (Kd.R_lower ho0 (below_size (by repeat (first | (with_reducible first | exact HB.out | apply below_alloc | apply pw_below_drewN | apply below_drew1) | exact HB.out)))); have n2_ := Aside0.mk (below_step (by repeat (first | (with_reducible first | exact HB.out | apply below_alloc | apply pw_below_drewN | apply below_drew1) | exact HB.out)) hb); clear HO_6; clear HB; have HO_6 := n0_; have HO308 := n1_; have HB := n2_; clear n0_ n1_ n2_; (try clear hb); (try clear hb2); (try clear hk); (try clear hi); (try clear ho0)) | (go_at_call 12; refine calls_of_args (args' := #[.slice (some ⟨go25, 0, none⟩) y304.length co30]) (by first | (rw [show y304.length = y299.length from (Kd.R_reads' HO_6.out).1.symm] <;> rfl) | rfl) ?_; (with_reducible refine (order_Owners.calls _ _ y304 t309 _ ?side1 ?side2 A27.out).mono ?_); (case side1 => repeat (first | exact (Kd.R_reads' HO_6.out).2.2 | (with_reducible refine Kd.C_alloc ?_ _) | (with_reducible refine Kd.C_drewN ?_ _) | (with_reducible refine Kd.C_drew ?_))); (case side2 => rw [show y304.length = y299.length from (Kd.R_reads' HO_6.out).1.symm]; exact (Kd.R_reads' HO_6.out).2.1); rintro e w34 ⟨v310, rfl, ho0, hb⟩; have n0_ := Aside0.mk (Kd.R_below (by (with_reducible repeat (first | apply Kd.R_alloc | apply Kd.R_drewN | apply Kd.R_drew)); exact HO_6.out) hb); have n1_ := Aside0.mk (Kd.R_elder' (by (with_reducible repeat (first | apply Kd.R_alloc | apply Kd.R_drewN | apply Kd.R_drew)); exact HO308.out) (Kd.R_base ho0) hb); have n2_ := Aside0.mk (Kd.R_lower (Kd.R_new' ho0 (Kd.R_lt (by (with_reducible repeat (first | apply Kd.R_alloc | apply Kd.R_drewN | apply Kd.R_drew)); exact HO308.out))) (below_size (by repeat (first | (with_reducible first | exact HB.out | apply below_alloc | apply pw_below_drewN | apply below_drew1) | exact HB.out)))); have n3_ := Aside0.mk (below_step (by repeat (first | (with_reducible first | exact HB.out | apply below_alloc | apply pw_below_drewN | apply below_drew1) | exact HB.out)) hb); clear HO_6; clear HO308; clear HB; have HO_6 := n0_; have HO308 := n1_; have HO311 := n2_; have HB := n3_; clear n0_ n1_ n2_ n3_; (try clear hb); (try clear hb2); (try clear hk); (try clear hi); (try clear ho0)) | (go_at_call 14; refine calls_of_args (args' := #[.slice (some ⟨go25, 0, none⟩) y304.length co30]) (by first | (rw [show y304.length = y299.length from (Kd.R_reads' HO_6.out).1.symm] <;> rfl) | rfl) ?_; (with_reducible refine (order_Bands.calls _ _ y304 t312 _ ?side1 ?side2 A28.out).mono ?_); (case side1 => repeat (first | exact (Kd.R_reads' HO_6.out).2.2 | (with_reducible refine Kd.C_alloc ?_ _) | (with_reducible refine Kd.C_drewN ?_ _) | (with_reducible refine Kd.C_drew ?_))); (case side2 => rw [show y304.length = y299.length from (Kd.R_reads' HO_6.out).1.symm]; exact (Kd.R_reads' HO_6.out).2.1); rintro e w35 ⟨v313, rfl, ho0, hb⟩; have n0_ := Aside0.mk (Kd.R_below (by (with_reducible repeat (first | apply Kd.R_alloc | apply Kd.R_drewN | apply Kd.R_drew)); exact HO_6.out) hb); have n1_ := Aside0.mk (Kd.R_elder' (by (with_reducible repeat (first | apply Kd.R_alloc | apply Kd.R_drewN | apply Kd.R_drew)); exact HO308.out) (Kd.R_base ho0) hb); have n2_ := Aside0.mk (Kd.R_elder' (by (with_reducible repeat (first | apply Kd.R_alloc | apply Kd.R_drewN | apply Kd.R_drew)); exact HO311.out) (Kd.R_base ho0) hb); have n3_ := Aside0.mk (Kd.R_lower (Kd.R_new' (Kd.R_new' ho0 (Kd.R_lt (by (with_reducible repeat (first | apply Kd.R_alloc | apply Kd.R_drewN | apply Kd.R_drew)); exact HO308.out))) (Kd.R_lt (by (with_reducible repeat (first | apply Kd.R_alloc | apply Kd.R_drewN | apply Kd.R_drew)); exact HO311.out))) (below_size (by repeat (first | (with_reducible first | exact HB.out | apply below_alloc | apply pw_below_drewN | apply below_drew1) | exact HB.out)))); have n4_ := Aside0.mk (below_step (by repeat (first | (with_reducible first | exact HB.out | apply below_alloc | apply pw_below_drewN | apply below_drew1) | exact HB.out)) hb); clear HO_6; clear HO308; clear HO311; clear HB; have HO_6 := n0_; have HO308 := n1_; have HO311 := n2_; have HO314 := n3_; have HB := n4_; clear n0_ n1_ n2_ n3_ n4_; (try clear hb); (try clear hb2); (try clear hk); (try clear hi); (try clear ho0)))
                      repeat (go_quiet (first | ((with_reducible refine gate_store (t := 3) (p := 49) rfl ?_); (try (rw [drewN_self wr]; generalize hq_ : World.drewN wr _ = wr; have n0_ := Aside0.mk (Kd.R_at hq_ HO_6.out); have n1_ := Aside0.mk (below_at hq_ HB.out); clear hq_ HO_6 HB; have HO_6 := n0_; have HB := n1_; clear n0_ n1_; (try (have HX31 := Aside0.mk (show Kd.R k38 38 wr w.heap.size (fun _ => True) (.slice (some ⟨go25, 0, none⟩) y299.length co30) y299 from (by (with_reducible repeat (first | apply Kd.R_alloc | apply Kd.R_drewN | apply Kd.R_drew)); exact HO_6.out)))); (try (obtain ⟨ce31, hcl31, hM31, hcc31, hfr31⟩ := Kd.R_elem HX31.out z38 ((ji22) : Int) (of_decide_eq_true (by first | (with_reducible assumption) | assumption)) (by have h_ : ((ji22) : Int) < ((y299.length : Int) : Int) := of_decide_eq_true (by first | (with_reducible assumption) | assumption); first | exact h_ | (have e_ := (Kd.R_reads' HO_6.out).1; omega) | simpa using h_))); (try (obtain rfl := k38_openM hM31)); (try (have HP31 := Kd.R_seg HX31.out ((ji22) : Int) (of_decide_eq_true (by first | (with_reducible assumption) | assumption)) (by have h_ : ((ji22) : Int) < ((y299.length : Int) : Int) := of_decide_eq_true (by first | (with_reducible assumption) | assumption); first | exact h_ | (have e_ := (Kd.R_reads' HO_6.out).1; omega) | simpa using h_) (seg := [.int .i64 1099511627777]) (j := 4) hcl31 hcc31 (show 5 ≤ 6 from by decide) (x' := (⟨(rd_T38 y299 (ji22)).f0, (rd_T38 y299 (ji22)).f1, (rd_T38 y299 (ji22)).f2, (rd_T38 y299 (ji22)).f3, 1099511627777, (rd_T38 y299 (ji22)).f5⟩ : S38)) (k38_mkM _ _ _ (⟨(rd_T38 y299 (ji22)).f0, (rd_T38 y299 (ji22)).f1, (rd_T38 y299 (ji22)).f2, (rd_T38 y299 (ji22)).f3, 1099511627777, (rd_T38 y299 (ji22)).f5⟩ : S38) ) (fun _ hk => hk))); (try (have hx31_4 := hcc31 4 _ rfl)); (try (try simp only [show (k38).sz = 6 from rfl, Nat.mul_one, Nat.add_zero] at hx31_4)); (try (have hf31_4 := hfr31 4)); (try (try simp only [show (k38).sz = 6 from rfl, Nat.mul_one, Nat.add_zero] at hf31_4)); (try (clear hcl31 hcc31 hfr31 hM31)))); refine store_event (t := 3) (p := 49) (v := ?vo_w32) (w1 := (wr.setCell ⟨go25, ((ji22) : Int).toNat * 6 + 4, none⟩ (.int .i64 1099511627777))) ?hg ?ho ?hn ?hr ?_; (case ho => rfl); (case hg => rfl); (case hn => rfl); (case hr => first | (go_simp; done) | (go_simp; rfl)); intro w32 hw; have hg : wr.grownBy w32 (some go25) := (by rw [hw]; exact HP31.2); have hp_ : Kd.R k38 38 w32 w.heap.size (fun _ => True) (.slice (some ⟨go25, 0, none⟩) y299.length co30) y304 := (by rw [hw, Ny304.out]; exact HP31.1); clear HP31; have n0_ := Aside0.mk (hp_); have n1_ := Aside0.mk ((by rw [hw]; exact below_set (HB.out) GB25.out : Below w.heap.size w w32)); clear HO_6; clear HB; have HO_6 := n0_; have HB := n1_; clear n0_ n1_; clear hg hw hp_) | (go_at_call 17; refine calls_of_args (args' := #[.slice (some ⟨go25, 0, none⟩) y304.length co30]) (by first | (rw [show y304.length = y299.length from (Kd.R_reads' HO_6.out).1.symm] <;> rfl) | rfl) ?_; (with_reducible refine (order_Order.calls _ _ y304 t305 t306 _ ?side1 ?side2 A26.out).mono ?_); (case side1 => repeat (first | exact (Kd.R_reads' HO_6.out).2.2 | (with_reducible refine Kd.C_alloc ?_ _) | (with_reducible refine Kd.C_drewN ?_ _) | (with_reducible refine Kd.C_drew ?_))); (case side2 => rw [show y304.length = y299.length from (Kd.R_reads' HO_6.out).1.symm]; exact (Kd.R_reads' HO_6.out).2.1); rintro e w33 ⟨v307, rfl, ho0, hb⟩; have n0_ := Aside0.mk (Kd.R_below (by (with_reducible repeat (first | apply Kd.R_alloc | apply Kd.R_drewN | apply Kd.R_drew)); exact HO_6.out) hb); have n1_ := Aside0.mk (Kd.R_lower ho0 (below_size (by repeat (first | (with_reducible first | exact HB.out | apply below_alloc | apply pw_below_drewN | apply below_drew1) | exact HB.out)))); have n2_ := Aside0.mk (below_step (by repeat (first | (with_reducible first | exact HB.out | apply below_alloc | apply pw_below_drewN | apply below_drew1) | exact HB.out)) hb); clear HO_6; clear HB; have HO_6 := n0_; have HO308 := n1_; have HB := n2_; clear n0_ n1_ n2_; (try clear hb); (try clear hb2); (try clear hk); (try clear hi); (try clear ho0)) | (go_at_call 12; refine calls_of_args (args' := #[.slice (some ⟨go25, 0, none⟩) y304.length co30]) (by first | (rw [show y304.length = y299.length from (Kd.R_reads' HO_6.out).1.symm] <;> rfl) | rfl) ?_; (with_reducible refine (order_Owners.calls _ _ y304 t309 _ ?side1 ?side2 A27.out).mono ?_); (case side1 => repeat (first | exact (Kd.R_reads' HO_6.out).2.2 | (with_reducible refine Kd.C_alloc ?_ _) | (with_reducible refine Kd.C_drewN ?_ _) | (with_reducible refine Kd.C_drew ?_))); (case side2 => rw [show y304.length = y299.length from (Kd.R_reads' HO_6.out).1.symm]; exact (Kd.R_reads' HO_6.out).2.1); rintro e w34 ⟨v310, rfl, ho0, hb⟩; have n0_ := Aside0.mk (Kd.R_below (by (with_reducible repeat (first | apply Kd.R_alloc | apply Kd.R_drewN | apply Kd.R_drew)); exact HO_6.out) hb); have n1_ := Aside0.mk (Kd.R_elder' (by (with_reducible repeat (first | apply Kd.R_alloc | apply Kd.R_drewN | apply Kd.R_drew)); exact HO308.out) (Kd.R_base ho0) hb); have n2_ := Aside0.mk (Kd.R_lower (Kd.R_new' ho0 (Kd.R_lt (by (with_reducible repeat (first | apply Kd.R_alloc | apply Kd.R_drewN | apply Kd.R_drew)); exact HO308.out))) (below_size (by repeat (first | (with_reducible first | exact HB.out | apply below_alloc | apply pw_below_drewN | apply below_drew1) | exact HB.out)))); have n3_ := Aside0.mk (below_step (by repeat (first | (with_reducible first | exact HB.out | apply below_alloc | apply pw_below_drewN | apply below_drew1) | exact HB.out)) hb); clear HO_6; clear HO308; clear HB; have HO_6 := n0_; have HO308 := n1_; have HO311 := n2_; have HB := n3_; clear n0_ n1_ n2_ n3_; (try clear hb); (try clear hb2); (try clear hk); (try clear hi); (try clear ho0)) | (go_at_call 14; refine calls_of_args (args' := #[.slice (some ⟨go25, 0, none⟩) y304.length co30]) (by first | (rw [show y304.length = y299.length from (Kd.R_reads' HO_6.out).1.symm] <;> rfl) | rfl) ?_; (with_reducible refine (order_Bands.calls _ _ y304 t312 _ ?side1 ?side2 A28.out).mono ?_); (case side1 => repeat (first | exact (Kd.R_reads' HO_6.out).2.2 | (with_reducible refine Kd.C_alloc ?_ _) | (with_reducible refine Kd.C_drewN ?_ _) | (with_reducible refine Kd.C_drew ?_))); (case side2 => rw [show y304.length = y299.length from (Kd.R_reads' HO_6.out).1.symm]; exact (Kd.R_reads' HO_6.out).2.1); rintro e w35 ⟨v313, rfl, ho0, hb⟩; have n0_ := Aside0.mk (Kd.R_below (by (with_reducible repeat (first | apply Kd.R_alloc | apply Kd.R_drewN | apply Kd.R_drew)); exact HO_6.out) hb); have n1_ := Aside0.mk (Kd.R_elder' (by (with_reducible repeat (first | apply Kd.R_alloc | apply Kd.R_drewN | apply Kd.R_drew)); exact HO308.out) (Kd.R_base ho0) hb); have n2_ := Aside0.mk (Kd.R_elder' (by (with_reducible repeat (first | apply Kd.R_alloc | apply Kd.R_drewN | apply Kd.R_drew)); exact HO311.out) (Kd.R_base ho0) hb); have n3_ := Aside0.mk (Kd.R_lower (Kd.R_new' (Kd.R_new' ho0 (Kd.R_lt (by (with_reducible repeat (first | apply Kd.R_alloc | apply Kd.R_drewN | apply Kd.R_drew)); exact HO308.out))) (Kd.R_lt (by (with_reducible repeat (first | apply Kd.R_alloc | apply Kd.R_drewN | apply Kd.R_drew)); exact HO311.out))) (below_size (by repeat (first | (with_reducible first | exact HB.out | apply below_alloc | apply pw_below_drewN | apply below_drew1) | exact HB.out)))); have n4_ := Aside0.mk (below_step (by repeat (first | (with_reducible first | exact HB.out | apply below_alloc | apply pw_below_drewN | apply below_drew1) | exact HB.out)) hb); clear HO_6; clear HO308; clear HO311; clear HB; have HO_6 := n0_; have HO308 := n1_; have HO311 := n2_; have HO314 := n3_; have HB := n4_; clear n0_ n1_ n2_ n3_ n4_; (try clear hb); (try clear hb2); (try clear hk); (try clear hi); (try clear ho0))); go_upto_region 13 with (first | ((with_reducible refine gate_store (t := 3) (p := 49) rfl ?_); (try (rw [drewN_self wr]; generalize hq_ : World.drewN wr _ = wr; have n0_ := Aside0.mk (Kd.R_at hq_ HO_6.out); have n1_ := Aside0.mk (below_at hq_ HB.out); clear hq_ HO_6 HB; have HO_6 := n0_; have HB := n1_; clear n0_ n1_; (try (have HX31 := Aside0.mk (show Kd.R k38 38 wr w.heap.size (fun _ => True) (.slice (some ⟨go25, 0, none⟩) y299.length co30) y299 from (by (with_reducible repeat (first | apply Kd.R_alloc | apply Kd.R_drewN | apply Kd.R_drew)); exact HO_6.out)))); (try (obtain ⟨ce31, hcl31, hM31, hcc31, hfr31⟩ := Kd.R_elem HX31.out z38 ((ji22) : Int) (of_decide_eq_true (by first | (with_reducible assumption) | assumption)) (by have h_ : ((ji22) : Int) < ((y299.length : Int) : Int) := of_decide_eq_true (by first | (with_reducible assumption) | assumption); first | exact h_ | (have e_ := (Kd.R_reads' HO_6.out).1; omega) | simpa using h_))); (try (obtain rfl := k38_openM hM31)); (try (have HP31 := Kd.R_seg HX31.out ((ji22) : Int) (of_decide_eq_true (by first | (with_reducible assumption) | assumption)) (by have h_ : ((ji22) : Int) < ((y299.length : Int) : Int) := of_decide_eq_true (by first | (with_reducible assumption) | assumption); first | exact h_ | (have e_ := (Kd.R_reads' HO_6.out).1; omega) | simpa using h_) (seg := [.int .i64 1099511627777]) (j := 4) hcl31 hcc31 (show 5 ≤ 6 from by decide) (x' := (⟨(rd_T38 y299 (ji22)).f0, (rd_T38 y299 (ji22)).f1, (rd_T38 y299 (ji22)).f2, (rd_T38 y299 (ji22)).f3, 1099511627777, (rd_T38 y299 (ji22)).f5⟩ : S38)) (k38_mkM _ _ _ (⟨(rd_T38 y299 (ji22)).f0, (rd_T38 y299 (ji22)).f1, (rd_T38 y299 (ji22)).f2, (rd_T38 y299 (ji22)).f3, 1099511627777, (rd_T38 y299 (ji22)).f5⟩ : S38) ) (fun _ hk => hk))); (try (have hx31_4 := hcc31 4 _ rfl)); (try (try simp only [show (k38).sz = 6 from rfl, Nat.mul_one, Nat.add_zero] at hx31_4)); (try (have hf31_4 := hfr31 4)); (try (try simp only [show (k38).sz = 6 from rfl, Nat.mul_one, Nat.add_zero] at hf31_4)); (try (clear hcl31 hcc31 hfr31 hM31)))); refine store_event (t := 3) (p := 49) (v := ?vo_w32) (w1 := (wr.setCell ⟨go25, ((ji22) : Int).toNat * 6 + 4, none⟩ (.int .i64 1099511627777))) ?hg ?ho ?hn ?hr ?_; (case ho => rfl); (case hg => rfl); (case hn => rfl); (case hr => first | (go_simp; done) | (go_simp; rfl)); intro w32 hw; have hg : wr.grownBy w32 (some go25) := (by rw [hw]; exact HP31.2); have hp_ : Kd.R k38 38 w32 w.heap.size (fun _ => True) (.slice (some ⟨go25, 0, none⟩) y299.length co30) y304 := (by rw [hw, Ny304.out]; exact HP31.1); clear HP31; have n0_ := Aside0.mk (hp_); have n1_ := Aside0.mk ((by rw [hw]; exact below_set (HB.out) GB25.out : Below w.heap.size w w32)); clear HO_6; clear HB; have HO_6 := n0_; have HB := n1_; clear n0_ n1_; clear hg hw hp_) | (go_at_call 17; refine calls_of_args (args' := #[.slice (some ⟨go25, 0, none⟩) y304.length co30]) (by first | (rw [show y304.length = y299.length from (Kd.R_reads' HO_6.out).1.symm] <;> rfl) | rfl) ?_; (with_reducible refine (order_Order.calls _ _ y304 t305 t306 _ ?side1 ?side2 A26.out).mono ?_); (case side1 => repeat (first | exact (Kd.R_reads' HO_6.out).2.2 | (with_reducible refine Kd.C_alloc ?_ _) | (with_reducible refine Kd.C_drewN ?_ _) | (with_reducible refine Kd.C_drew ?_))); (case side2 => rw [show y304.length = y299.length from (Kd.R_reads' HO_6.out).1.symm]; exact (Kd.R_reads' HO_6.out).2.1); rintro e w33 ⟨v307, rfl, ho0, hb⟩; have n0_ := Aside0.mk (Kd.R_below (by (with_reducible repeat (first | apply Kd.R_alloc | apply Kd.R_drewN | apply Kd.R_drew)); exact HO_6.out) hb); have n1_ := Aside0.mk (Kd.R_lower ho0 (below_size (by repeat (first | (with_reducible first | exact HB.out | apply below_alloc | apply pw_below_drewN | apply below_drew1) | exact HB.out)))); have n2_ := Aside0.mk (below_step (by repeat (first | (with_reducible first | exact HB.out | apply below_alloc | apply pw_below_drewN | apply below_drew1) | exact HB.out)) hb); clear HO_6; clear HB; have HO_6 := n0_; have HO308 := n1_; have HB := n2_; clear n0_ n1_ n2_; (try clear hb); (try clear hb2); (try clear hk); (try clear hi); (try clear ho0)) | (go_at_call 12; refine calls_of_args (args' := #[.slice (some ⟨go25, 0, none⟩) y304.length co30]) (by first | (rw [show y304.length = y299.length from (Kd.R_reads' HO_6.out).1.symm] <;> rfl) | rfl) ?_; (with_reducible refine (order_Owners.calls _ _ y304 t309 _ ?side1 ?side2 A27.out).mono ?_); (case side1 => repeat (first | exact (Kd.R_reads' HO_6.out).2.2 | (with_reducible refine Kd.C_alloc ?_ _) | (with_reducible refine Kd.C_drewN ?_ _) | (with_reducible refine Kd.C_drew ?_))); (case side2 => rw [show y304.length = y299.length from (Kd.R_reads' HO_6.out).1.symm]; exact (Kd.R_reads' HO_6.out).2.1); rintro e w34 ⟨v310, rfl, ho0, hb⟩; have n0_ := Aside0.mk (Kd.R_below (by (with_reducible repeat (first | apply Kd.R_alloc | apply Kd.R_drewN | apply Kd.R_drew)); exact HO_6.out) hb); have n1_ := Aside0.mk (Kd.R_elder' (by (with_reducible repeat (first | apply Kd.R_alloc | apply Kd.R_drewN | apply Kd.R_drew)); exact HO308.out) (Kd.R_base ho0) hb); have n2_ := Aside0.mk (Kd.R_lower (Kd.R_new' ho0 (Kd.R_lt (by (with_reducible repeat (first | apply Kd.R_alloc | apply Kd.R_drewN | apply Kd.R_drew)); exact HO308.out))) (below_size (by repeat (first | (with_reducible first | exact HB.out | apply below_alloc | apply pw_below_drewN | apply below_drew1) | exact HB.out)))); have n3_ := Aside0.mk (below_step (by repeat (first | (with_reducible first | exact HB.out | apply below_alloc | apply pw_below_drewN | apply below_drew1) | exact HB.out)) hb); clear HO_6; clear HO308; clear HB; have HO_6 := n0_; have HO308 := n1_; have HO311 := n2_; have HB := n3_; clear n0_ n1_ n2_ n3_; (try clear hb); (try clear hb2); (try clear hk); (try clear hi); (try clear ho0)) | (go_at_call 14; refine calls_of_args (args' := #[.slice (some ⟨go25, 0, none⟩) y304.length co30]) (by first | (rw [show y304.length = y299.length from (Kd.R_reads' HO_6.out).1.symm] <;> rfl) | rfl) ?_; (with_reducible refine (order_Bands.calls _ _ y304 t312 _ ?side1 ?side2 A28.out).mono ?_); (case side1 => repeat (first | exact (Kd.R_reads' HO_6.out).2.2 | (with_reducible refine Kd.C_alloc ?_ _) | (with_reducible refine Kd.C_drewN ?_ _) | (with_reducible refine Kd.C_drew ?_))); (case side2 => rw [show y304.length = y299.length from (Kd.R_reads' HO_6.out).1.symm]; exact (Kd.R_reads' HO_6.out).2.1); rintro e w35 ⟨v313, rfl, ho0, hb⟩; have n0_ := Aside0.mk (Kd.R_below (by (with_reducible repeat (first | apply Kd.R_alloc | apply Kd.R_drewN | apply Kd.R_drew)); exact HO_6.out) hb); have n1_ := Aside0.mk (Kd.R_elder' (by (with_reducible repeat (first | apply Kd.R_alloc | apply Kd.R_drewN | apply Kd.R_drew)); exact HO308.out) (Kd.R_base ho0) hb); have n2_ := Aside0.mk (Kd.R_elder' (by (with_reducible repeat (first | apply Kd.R_alloc | apply Kd.R_drewN | apply Kd.R_drew)); exact HO311.out) (Kd.R_base ho0) hb); have n3_ := Aside0.mk (Kd.R_lower (Kd.R_new' (Kd.R_new' ho0 (Kd.R_lt (by (with_reducible repeat (first | apply Kd.R_alloc | apply Kd.R_drewN | apply Kd.R_drew)); exact HO308.out))) (Kd.R_lt (by (with_reducible repeat (first | apply Kd.R_alloc | apply Kd.R_drewN | apply Kd.R_drew)); exact HO311.out))) (below_size (by repeat (first | (with_reducible first | exact HB.out | apply below_alloc | apply pw_below_drewN | apply below_drew1) | exact HB.out)))); have n4_ := Aside0.mk (below_step (by repeat (first | (with_reducible first | exact HB.out | apply below_alloc | apply pw_below_drewN | apply below_drew1) | exact HB.out)) hb); clear HO_6; clear HO308; clear HO311; clear HB; have HO_6 := n0_; have HO308 := n1_; have HO311 := n2_; have HO314 := n3_; have HB := n4_; clear n0_ n1_ n2_ n3_ n4_; (try clear hb); (try clear hb2); (try clear hk); (try clear hi); (try clear ho0))))
                      (try simp only [Act.put, List.setIfInBounds_toArray, List.set_cons_zero, List.set_cons_succ])
                      go_cut [74] (fun v74 wc => ∃ (kq : Nat) (x74_28 : Bool), v74 = .bool x74_28 ∧ Aside0 (casementlaw16_OrderRaises.j2 kq (ji22) y304 t305 t309 t312 x74_28 = some r) ∧ Aside0 (kq ≤ k2) ∧ Aside0 (Kd.R k38 38 wc w.heap.size (fun _ => True) (.slice (some ⟨go25, 0, none⟩) y299.length co30) y304) ∧ Aside0 (Kd.R (Kd.int .i64) 3 wc w.heap.size (fun k_ => some k_ ≠ (v310 : Value).ownBlock ∧ some k_ ≠ (v313 : Value).ownBlock) v307 t305) ∧ Aside0 (Kd.R (Kd.int .i64) 3 wc w.heap.size (fun k_ => some k_ ≠ (v307 : Value).ownBlock ∧ some k_ ≠ (v313 : Value).ownBlock) v310 t309) ∧ Aside0 (Kd.R (Kd.int .i64) 3 wc w.heap.size (fun k_ => some k_ ≠ (v307 : Value).ownBlock ∧ some k_ ≠ (v310 : Value).ownBlock) v313 t312) ∧ Aside0 (Below w.heap.size w wc))
                      case first =>
                        have H := HC29.out
                        clear HC29
                        by_cases c36 : t306 = 0
                        · rw [if_pos c36] at H
                          have c36b0 : (t306 == 0) = true := beq_iff_eq.mpr c36
                          have c36b1 : (t306 != 0) = false := bne_eq_false_iff_eq.mpr c36
                          clear c36
                          (first | rw [c36b0] | (simp only [i64_w, i32_w]; rw [c36b0]) | skip)
                          by_cases c37 : (t309.length : Int) = (y299.length : Int)
                          · rw [if_pos c37] at H
                            have c37b0 : ((t309.length : Int) == (y299.length : Int)) = true := beq_iff_eq.mpr c37
                            have c37b1 : ((t309.length : Int) != (y299.length : Int)) = false := bne_eq_false_iff_eq.mpr c37
                            have c37b2 : (t309.length == y299.length) = true := by first | simpa using c37 | (simp at c37 ⊢; omega)
                            clear c37
                            have H' := Aside0.mk H
                            clear H
                            obtain ⟨Ao38, co38, eo38⟩ := Kd.R_slice HO311.out
                            subst eo38
                            obtain ⟨Ao39, co39, eo39⟩ := Kd.R_slice HO314.out
                            subst eo39
                            go_wp2
                            repeat (go_quiet (fail); try go_wp2)
                            go_meet
                            case rel => exact ⟨_, (((t312.length : Int) != (y299.length : Int))), (by first | rfl | (simp; done) | (simp [*]; done) | (congr 2; generalize ByteArray.toList _ = l_; cases l_ <;> rfl)), H', ⟨by have := HJ2.out; have := HK2.out; first | omega | exact Nat.le_refl _⟩, ⟨by (with_reducible repeat (first | apply Kd.R_alloc | apply Kd.R_drewN | apply Kd.R_drew)); exact HO_6.out⟩, ⟨by (with_reducible repeat (first | apply Kd.R_alloc | apply Kd.R_drewN | apply Kd.R_drew)); exact Kd.R_mono HO308.out (fun _ hk => ⟨hk.1.2, hk.2⟩)⟩, ⟨by (with_reducible repeat (first | apply Kd.R_alloc | apply Kd.R_drewN | apply Kd.R_drew)); exact Kd.R_mono HO311.out (fun _ hk => ⟨hk.1.2, hk.2⟩)⟩, ⟨by (with_reducible repeat (first | apply Kd.R_alloc | apply Kd.R_drewN | apply Kd.R_drew)); exact Kd.R_mono HO314.out (fun _ hk => ⟨hk.1.2, hk.2⟩)⟩, ⟨by repeat (first | (with_reducible first | exact HB.out | apply below_alloc | apply pw_below_drewN | apply below_drew1) | exact HB.out)⟩⟩
                          · rw [if_neg c37] at H
                            have c37b0 : ((t309.length : Int) == (y299.length : Int)) = false := beq_eq_false_iff_ne.mpr c37
                            have c37b1 : ((t309.length : Int) != (y299.length : Int)) = true := bne_iff_ne.mpr c37
                            have c37b2 : (t309.length == y299.length) = false := by first | simpa using c37 | (simp at c37 ⊢; omega)
                            have H' := Aside0.mk H
                            clear H
                            obtain ⟨Ao40, co40, eo40⟩ := Kd.R_slice HO311.out
                            subst eo40
                            go_wp2
                            repeat (go_quiet (fail); try go_wp2)
                            go_meet
                            case rel => exact ⟨_, (true), (by first | rfl | (simp; done) | (simp [*]; done) | (congr 2; generalize ByteArray.toList _ = l_; cases l_ <;> rfl)), H', ⟨by have := HJ2.out; have := HK2.out; first | omega | exact Nat.le_refl _⟩, ⟨by (with_reducible repeat (first | apply Kd.R_alloc | apply Kd.R_drewN | apply Kd.R_drew)); exact HO_6.out⟩, ⟨by (with_reducible repeat (first | apply Kd.R_alloc | apply Kd.R_drewN | apply Kd.R_drew)); exact Kd.R_mono HO308.out (fun _ hk => ⟨hk.1.2, hk.2⟩)⟩, ⟨by (with_reducible repeat (first | apply Kd.R_alloc | apply Kd.R_drewN | apply Kd.R_drew)); exact Kd.R_mono HO311.out (fun _ hk => ⟨hk.1.2, hk.2⟩)⟩, ⟨by (with_reducible repeat (first | apply Kd.R_alloc | apply Kd.R_drewN | apply Kd.R_drew)); exact Kd.R_mono HO314.out (fun _ hk => ⟨hk.1.2, hk.2⟩)⟩, ⟨by repeat (first | (with_reducible first | exact HB.out | apply below_alloc | apply pw_below_drewN | apply below_drew1) | exact HB.out)⟩⟩
                        · rw [if_neg c36] at H
                          have c36b0 : (t306 == 0) = false := beq_eq_false_iff_ne.mpr c36
                          have c36b1 : (t306 != 0) = true := bne_iff_ne.mpr c36
                          (first | rw [c36b0] | (simp only [i64_w, i32_w]; rw [c36b0]) | skip)
                          have H' := Aside0.mk H
                          clear H
                          go_wp2
                          repeat (go_quiet (fail); try go_wp2)
                          go_meet
                          case rel => exact ⟨_, (true), (by first | rfl | (simp; done) | (simp [*]; done) | (congr 2; generalize ByteArray.toList _ = l_; cases l_ <;> rfl)), H', ⟨by have := HJ2.out; have := HK2.out; first | omega | exact Nat.le_refl _⟩, ⟨by (with_reducible repeat (first | apply Kd.R_alloc | apply Kd.R_drewN | apply Kd.R_drew)); exact HO_6.out⟩, ⟨by (with_reducible repeat (first | apply Kd.R_alloc | apply Kd.R_drewN | apply Kd.R_drew)); exact Kd.R_mono HO308.out (fun _ hk => ⟨hk.1.2, hk.2⟩)⟩, ⟨by (with_reducible repeat (first | apply Kd.R_alloc | apply Kd.R_drewN | apply Kd.R_drew)); exact Kd.R_mono HO311.out (fun _ hk => ⟨hk.1.2, hk.2⟩)⟩, ⟨by (with_reducible repeat (first | apply Kd.R_alloc | apply Kd.R_drewN | apply Kd.R_drew)); exact Kd.R_mono HO314.out (fun _ hk => ⟨hk.1.2, hk.2⟩)⟩, ⟨by repeat (first | (with_reducible first | exact HB.out | apply below_alloc | apply pw_below_drewN | apply below_drew1) | exact HB.out)⟩⟩
                      case rest =>
                        clear HC29
                        try clear c1
                        try clear c2
                        try clear p2
                        try clear q2
                        try clear hx2
                        try clear hf2
                        try clear c3
                        try clear p3
                        try clear q3
                        try clear hx3
                        try clear hf3
                        try clear c4
                        try clear c4b0
                        try clear c4b1
                        try clear c4b2
                        try clear p6
                        try clear c7
                        try clear c10
                        try clear c10b0
                        try clear c10b1
                        try clear c11
                        try clear c15
                        try clear c15b0
                        try clear c16
                        try clear c16b0
                        try clear c17
                        try clear c17b0
                        try clear c23
                        try clear c23b0
                        try clear c24
                        try clear c24b0
                        try clear c25
                        try clear p25
                        try clear q25
                        try clear hx25
                        try clear hf25
                        try clear p30
                        try clear q30
                        try clear hx30
                        try clear c31
                        try clear hx31
                        try clear hf31
                        try clear c36
                        try clear c36b0
                        try clear c36b1
                        try clear c37
                        try clear c37b0
                        try clear c37b1
                        try clear c37b2
                        try clear hx25_0
                        try clear hx25_1
                        try clear hx25_2
                        try clear hx25_3
                        try clear hx25_4
                        try clear hx25_5
                        try clear hx302_0
                        try clear hx302_1
                        try clear hx302_2
                        try clear hx302_3
                        try clear hx302_4
                        try clear hx302_5
                        try clear hx31_4
                        try clear p2
                        try clear p25
                        try clear p302
                        try clear p6
                        try clear q25
                        try clear q302
                        obtain ⟨kq, x74_28, rfl, HA, HJ28, HO_6, HO_8, HO_10, HO_11, HB⟩ := hcut
                        have hl6_28 := (Kd.R_reads' HO_6.out).1
                        rw [hl6_28] at HO_6
                        (try simp only [hl6_28])
                        (try simp only [hl6_28] at HO_8)
                        (try simp only [hl6_28] at HO_10)
                        (try simp only [hl6_28] at HO_11)
                        cases kq with
                        | zero => exact absurd HA.out (by simp [casementlaw16_OrderRaises.j2])
                        | succ kj28 =>
                          have H := HA.out
                          clear HA
                          simp only [casementlaw16_OrderRaises.j2] at H
                          by_cases c41 : x74_28 = true
                          · subst c41
                            have H1 : (some false) = some r := by rw [if_pos rfl] at H; exact H
                            clear H
                            have H := H1
                            clear H1
                            obtain rfl := Option.some.inj H
                            go_wp2
                            repeat (go_quiet (fail); try go_wp2)
                            go_ret
                            exact ⟨by first | rfl | (simp [errW_none, errW_some] <;> rfl) | (simp only [← hji22]; first | rfl | (simp [errW_none, errW_some] <;> rfl)) | (simp [*, errW_none, errW_some] <;> rfl), by repeat (first | (with_reducible first | exact HB.out | apply below_alloc | apply pw_below_drewN | apply below_drew1) | exact HB.out)⟩
                          · replace c41 := Bool.eq_false_iff.mpr c41
                            subst c41
                            have H1 : (if 0 ≤ (ji22) then (if (ji22) < (y304.length : Int) then ((casementlaw16_where.f kj28 t305 ((rd_T38 y304 (ji22)).f0)).bind fun t316 => (casementlaw16_OrderRaises.l1 kj28 (ji22) y304 t305 t309 t312 (wrap64 (t316 + 1)))) else (none)) else (none)) = some r := by rw [if_neg (show ¬ (false = true) by decide)] at H; exact H
                            clear H
                            have H := H1
                            clear H1
                            by_cases c42 : 0 ≤ (ji22)
                            · rw [if_pos c42] at H
                              have c42b0 : decide (0 ≤ (ji22)) = true := decide_eq_true c42
                              clear c42
                              by_cases c43 : (ji22) < (y304.length : Int)
                              · rw [if_pos c43] at H
                                have c43b0 : decide ((ji22) < (y304.length : Int)) = true := decide_eq_true c43
                                clear c43
                                replace H := Option.bind_eq_some_iff.mp H
                                obtain ⟨t316, A440, H⟩ := H
                                replace H : (casementlaw16_OrderRaises.l1 kj28 (ji22) y304 t305 t309 t312 (wrap64 (t316 + 1))) = some r := H
                                have A44 := Aside0.mk A440
                                clear A440
                                have H' := Aside0.mk H
                                clear H
                                have p315 : 0 ≤ ((ji22) : Int) := of_decide_eq_true (by first | (with_reducible assumption) | assumption)
                                have q315 : (ji22) < (y304.length : Int) := of_decide_eq_true (by first | (with_reducible assumption) | assumption)
                                obtain ⟨ad315, e315, hx315_0, hx315_1, hx315_2, hx315_3, hx315_4, hx315_5⟩ := at_T38 (Kd.R_reads' HO_6.out).2.2 (ji22) p315 q315
                                obtain rfl : (⟨go25, 0, none⟩ : Addr) = ad315 := (by injection e315)
                                (first | simp only [add_plain] at hx315_0 | simp only [add_at] at hx315_0 | simp only [Addr.add, Nat.zero_add] at hx315_0 | skip)
                                (first | simp only [add_plain] at hx315_1 | simp only [add_at] at hx315_1 | simp only [Addr.add, Nat.zero_add] at hx315_1 | skip)
                                (first | simp only [add_plain] at hx315_2 | simp only [add_at] at hx315_2 | simp only [Addr.add, Nat.zero_add] at hx315_2 | skip)
                                (first | simp only [add_plain] at hx315_3 | simp only [add_at] at hx315_3 | simp only [Addr.add, Nat.zero_add] at hx315_3 | skip)
                                (first | simp only [add_plain] at hx315_4 | simp only [add_at] at hx315_4 | simp only [Addr.add, Nat.zero_add] at hx315_4 | skip)
                                (first | simp only [add_plain] at hx315_5 | simp only [add_at] at hx315_5 | simp only [Addr.add, Nat.zero_add] at hx315_5 | skip)
                                replace p315 := eq_true p315
                                replace q315 := eq_true q315
                                obtain ⟨Ao45, co45, eo45⟩ := Kd.R_slice HO_8.out
                                subst eo45
                                go_wp2_with (first | (go_at_call 20; (with_reducible refine (casementlaw16_where.calls kj28 _ _ t305 ((rd_T38 y304 (ji22)).f0) t316 _ ?side1 ?side2 A44.out).mono ?_); (case side1 => repeat (first | exact (Kd.R_reads' HO_8.out).2.2 | (with_reducible refine Kd.C_alloc ?_ _) | (with_reducible refine Kd.C_drewN ?_ _) | (with_reducible refine Kd.C_drew ?_))); (case side2 => exact (Kd.R_reads' HO_8.out).2.1); rintro e w' ⟨rfl, ⟨nd, rfl⟩⟩; (try first | exact ⟨rfl, _, World.drewN_drewN _ _ _⟩ | exact ⟨rfl, _, Eq.trans (World.drewN_drewN _ _ _) (congrArg (World.drewN _) (Nat.add_assoc _ _ _))⟩)))
                                repeat (go_quiet (first | (go_at_call 20; (with_reducible refine (casementlaw16_where.calls kj28 _ _ t305 ((rd_T38 y304 (ji22)).f0) t316 _ ?side1 ?side2 A44.out).mono ?_); (case side1 => repeat (first | exact (Kd.R_reads' HO_8.out).2.2 | (with_reducible refine Kd.C_alloc ?_ _) | (with_reducible refine Kd.C_drewN ?_ _) | (with_reducible refine Kd.C_drew ?_))); (case side2 => exact (Kd.R_reads' HO_8.out).2.1); rintro e w' ⟨rfl, ⟨nd, rfl⟩⟩; (try first | exact ⟨rfl, _, World.drewN_drewN _ _ _⟩ | exact ⟨rfl, _, Eq.trans (World.drewN_drewN _ _ _) (congrArg (World.drewN _) (Nat.add_assoc _ _ _))⟩))); try go_wp2_with (first | (go_at_call 20; (with_reducible refine (casementlaw16_where.calls kj28 _ _ t305 ((rd_T38 y304 (ji22)).f0) t316 _ ?side1 ?side2 A44.out).mono ?_); (case side1 => repeat (first | exact (Kd.R_reads' HO_8.out).2.2 | (with_reducible refine Kd.C_alloc ?_ _) | (with_reducible refine Kd.C_drewN ?_ _) | (with_reducible refine Kd.C_drew ?_))); (case side2 => exact (Kd.R_reads' HO_8.out).2.1); rintro e w' ⟨rfl, ⟨nd, rfl⟩⟩; (try first | exact ⟨rfl, _, World.drewN_drewN _ _ _⟩ | exact ⟨rfl, _, Eq.trans (World.drewN_drewN _ _ _) (congrArg (World.drewN _) (Nat.add_assoc _ _ _))⟩))))
                                go_loopg [12] kj28 (fun kq v12 w' => ∃ (x12_4 : Int), v12 = .int .i64 x12_4 ∧ Aside0 (casementlaw16_OrderRaises.l1 kq (ji22) y304 t305 t309 t312 x12_4 = some r) ∧ Aside0 (kq ≤ kj28) ∧ Aside0 (Kd.R k38 38 w' w.heap.size (fun _ => True) (.slice (some ⟨go25, 0, none⟩) y304.length co30) y304) ∧ Aside0 (Kd.R (Kd.int .i64) 3 w' w.heap.size (fun k_ => some k_ ≠ (v310 : Value).ownBlock ∧ some k_ ≠ (v313 : Value).ownBlock) (.slice Ao45 t305.length co45) t305) ∧ Aside0 (Kd.R (Kd.int .i64) 3 w' w.heap.size (fun k_ => some k_ ≠ ((.slice Ao45 t305.length co45) : Value).ownBlock ∧ some k_ ≠ (v313 : Value).ownBlock) v310 t309) ∧ Aside0 (Kd.R (Kd.int .i64) 3 w' w.heap.size (fun k_ => some k_ ≠ ((.slice Ao45 t305.length co45) : Value).ownBlock ∧ some k_ ≠ (v310 : Value).ownBlock) v313 t312) ∧ Aside0 (Below w.heap.size w w'))
                                case atStart => exact ⟨(wrap64 (t316 + 1)), (by first | rfl | (simp; done) | (simp [*]; done) | (congr 2; generalize ByteArray.toList _ = l_; cases l_ <;> rfl)), H', ⟨Nat.le_refl _⟩, ⟨by (try simp only [hl6_28]); (with_reducible repeat (first | apply Kd.R_alloc | apply Kd.R_drewN | apply Kd.R_drew)); exact HO_6.out⟩, ⟨by (try simp only [hl6_28]); (with_reducible repeat (first | apply Kd.R_alloc | apply Kd.R_drewN | apply Kd.R_drew)); exact HO_8.out⟩, ⟨by (try simp only [hl6_28]); (with_reducible repeat (first | apply Kd.R_alloc | apply Kd.R_drewN | apply Kd.R_drew)); exact HO_10.out⟩, ⟨by (try simp only [hl6_28]); (with_reducible repeat (first | apply Kd.R_alloc | apply Kd.R_drewN | apply Kd.R_drew)); exact HO_11.out⟩, ⟨by repeat (first | (with_reducible first | exact HB.out | apply below_alloc | apply pw_below_drewN | apply below_drew1) | exact HB.out)⟩⟩
                                case round =>
                                  clear H'
                                  try clear c1
                                  try clear c2
                                  try clear p2
                                  try clear q2
                                  try clear hx2
                                  try clear hf2
                                  try clear c3
                                  try clear p3
                                  try clear q3
                                  try clear hx3
                                  try clear hf3
                                  try clear c4
                                  try clear c4b0
                                  try clear c4b1
                                  try clear c4b2
                                  try clear p6
                                  try clear c7
                                  try clear c10
                                  try clear c10b0
                                  try clear c10b1
                                  try clear c11
                                  try clear c15
                                  try clear c15b0
                                  try clear c16
                                  try clear c16b0
                                  try clear c17
                                  try clear c17b0
                                  try clear c23
                                  try clear c23b0
                                  try clear c24
                                  try clear c24b0
                                  try clear c25
                                  try clear p25
                                  try clear q25
                                  try clear hx25
                                  try clear hf25
                                  try clear p30
                                  try clear q30
                                  try clear hx30
                                  try clear c31
                                  try clear p31
                                  try clear q31
                                  try clear hx31
                                  try clear hf31
                                  try clear c36
                                  try clear c36b0
                                  try clear c36b1
                                  try clear c37
                                  try clear c37b0
                                  try clear c37b1
                                  try clear c37b2
                                  try clear c41
                                  try clear c42
                                  try clear c42b0
                                  try clear c43
                                  try clear c43b0
                                  try clear hx25_0
                                  try clear hx25_1
                                  try clear hx25_2
                                  try clear hx25_3
                                  try clear hx25_4
                                  try clear hx25_5
                                  try clear hx302_0
                                  try clear hx302_1
                                  try clear hx302_2
                                  try clear hx302_3
                                  try clear hx302_4
                                  try clear hx302_5
                                  try clear hx315_0
                                  try clear hx315_1
                                  try clear hx315_2
                                  try clear hx315_3
                                  try clear hx315_4
                                  try clear hx315_5
                                  try clear hx31_4
                                  try clear p2
                                  try clear p25
                                  try clear p3
                                  try clear p30
                                  try clear p302
                                  try clear p315
                                  try clear p6
                                  try clear q2
                                  try clear q25
                                  try clear q3
                                  try clear q30
                                  try clear q302
                                  try clear q315
                                  obtain ⟨x12_4, rfl, HA, HK4, HO_6, HO_8, HO_10, HO_11, HB⟩ := hrel
                                  cases gk with
                                  | zero => exact absurd HA.out (by simp [casementlaw16_OrderRaises.l1])
                                  | succ k4 =>
                                    have H := HA.out
                                    clear HA
                                    simp only [casementlaw16_OrderRaises.l1] at H
                                    by_cases c46 : x12_4 < (t305.length : Int)
                                    · rw [if_pos c46] at H
                                      have c46b0 : decide (x12_4 < (t305.length : Int)) = true := decide_eq_true c46
                                      clear c46
                                      by_cases c47 : 0 ≤ x12_4
                                      · rw [if_pos c47] at H
                                        have c47b0 : decide (0 ≤ x12_4) = true := decide_eq_true c47
                                        clear c47
                                        replace H := Option.bind_eq_some_iff.mp H
                                        obtain ⟨t319, A480, H⟩ := H
                                        replace H : (if 0 ≤ t319 then (if t319 < (t312.length : Int) then (if 0 ≤ (ji22) then (if (ji22) < (t312.length : Int) then (if (rd t312 t319) > (rd t312 (ji22)) then (casementlaw16_OrderRaises.l1 k4 (ji22) y304 t305 t309 t312 (wrap64 (x12_4 + 1))) else (casementlaw16_OrderRaises.l2 k4 (ji22) y304 t305 t309 t312 x12_4 t319 0)) else (none)) else (none)) else (none)) else (none)) = some r := H
                                        have A48 := Aside0.mk A480
                                        clear A480
                                        by_cases c49 : 0 ≤ t319
                                        · rw [if_pos c49] at H
                                          have c49b0 : decide (0 ≤ t319) = true := decide_eq_true c49
                                          clear c49
                                          by_cases c50 : t319 < (t312.length : Int)
                                          · rw [if_pos c50] at H
                                            have c50b0 : decide (t319 < (t312.length : Int)) = true := decide_eq_true c50
                                            clear c50
                                            by_cases c51 : 0 ≤ (ji22)
                                            · rw [if_pos c51] at H
                                              have c51b0 : decide (0 ≤ (ji22)) = true := decide_eq_true c51
                                              clear c51
                                              by_cases c52 : (ji22) < (t312.length : Int)
                                              · rw [if_pos c52] at H
                                                have c52b0 : decide ((ji22) < (t312.length : Int)) = true := decide_eq_true c52
                                                clear c52
                                                by_cases c53 : (rd t312 t319) > (rd t312 (ji22))
                                                · rw [if_pos c53] at H
                                                  have c53b0 : decide ((rd t312 (ji22)) < (rd t312 t319)) = true := decide_eq_true c53
                                                  clear c53
                                                  have H' := Aside0.mk H
                                                  clear H
                                                  have p318 : 0 ≤ (x12_4 : Int) := of_decide_eq_true (by first | (with_reducible assumption) | assumption)
                                                  have q318 : x12_4 < (t305.length : Int) := of_decide_eq_true (by first | (with_reducible assumption) | assumption)
                                                  obtain ⟨ad318, e318, hx318_0⟩ := Kd.at_int (Kd.R_reads' HO_8.out).2.2 x12_4 p318 q318
                                                  cases e318
                                                  replace p318 := eq_true p318
                                                  replace q318 := eq_true q318
                                                  go_wp2_with (first | (go_at_call 19; (with_reducible refine (casementref16_Place.calls k4 _ _ y304 (rd t305 x12_4) t319 _ ?side1 ?side2 A48.out).mono ?_); (case side1 => repeat (first | exact (Kd.R_reads' HO_6.out).2.2 | (with_reducible refine Kd.C_alloc ?_ _) | (with_reducible refine Kd.C_drewN ?_ _) | (with_reducible refine Kd.C_drew ?_))); (case side2 => exact (Kd.R_reads' HO_6.out).2.1); rintro e w' ⟨rfl, ⟨nd, rfl⟩⟩; (try first | exact ⟨rfl, _, World.drewN_drewN _ _ _⟩ | exact ⟨rfl, _, Eq.trans (World.drewN_drewN _ _ _) (congrArg (World.drewN _) (Nat.add_assoc _ _ _))⟩); obtain ⟨Ao54, co54, eo54⟩ := Kd.R_slice HO_11.out; subst eo54; have p320 : 0 ≤ (t319 : Int) := of_decide_eq_true (by first | (with_reducible assumption) | assumption); have q320 : t319 < (t312.length : Int) := of_decide_eq_true (by first | (with_reducible assumption) | assumption); obtain ⟨ad320, e320, hx320_0⟩ := Kd.at_int (Kd.R_reads' HO_11.out).2.2 t319 p320 q320; cases e320; replace p320 := eq_true p320; replace q320 := eq_true q320; have p321 : 0 ≤ ((ji22) : Int) := of_decide_eq_true (by first | (with_reducible assumption) | assumption); have q321 : (ji22) < (t312.length : Int) := of_decide_eq_true (by first | (with_reducible assumption) | assumption); obtain ⟨ad321, e321, hx321_0⟩ := Kd.at_int (Kd.R_reads' HO_11.out).2.2 (ji22) p321 q321; obtain rfl : ad320 = ad321 := (by injection e321); replace p321 := eq_true p321; replace q321 := eq_true q321))
                                                  repeat (go_quiet (first | (go_at_call 19; (with_reducible refine (casementref16_Place.calls k4 _ _ y304 (rd t305 x12_4) t319 _ ?side1 ?side2 A48.out).mono ?_); (case side1 => repeat (first | exact (Kd.R_reads' HO_6.out).2.2 | (with_reducible refine Kd.C_alloc ?_ _) | (with_reducible refine Kd.C_drewN ?_ _) | (with_reducible refine Kd.C_drew ?_))); (case side2 => exact (Kd.R_reads' HO_6.out).2.1); rintro e w' ⟨rfl, ⟨nd, rfl⟩⟩; (try first | exact ⟨rfl, _, World.drewN_drewN _ _ _⟩ | exact ⟨rfl, _, Eq.trans (World.drewN_drewN _ _ _) (congrArg (World.drewN _) (Nat.add_assoc _ _ _))⟩); obtain ⟨Ao54, co54, eo54⟩ := Kd.R_slice HO_11.out; subst eo54; have p320 : 0 ≤ (t319 : Int) := of_decide_eq_true (by first | (with_reducible assumption) | assumption); have q320 : t319 < (t312.length : Int) := of_decide_eq_true (by first | (with_reducible assumption) | assumption); obtain ⟨ad320, e320, hx320_0⟩ := Kd.at_int (Kd.R_reads' HO_11.out).2.2 t319 p320 q320; cases e320; replace p320 := eq_true p320; replace q320 := eq_true q320; have p321 : 0 ≤ ((ji22) : Int) := of_decide_eq_true (by first | (with_reducible assumption) | assumption); have q321 : (ji22) < (t312.length : Int) := of_decide_eq_true (by first | (with_reducible assumption) | assumption); obtain ⟨ad321, e321, hx321_0⟩ := Kd.at_int (Kd.R_reads' HO_11.out).2.2 (ji22) p321 q321; obtain rfl : ad320 = ad321 := (by injection e321); replace p321 := eq_true p321; replace q321 := eq_true q321)); try go_wp2_with (first | (go_at_call 19; (with_reducible refine (casementref16_Place.calls k4 _ _ y304 (rd t305 x12_4) t319 _ ?side1 ?side2 A48.out).mono ?_); (case side1 => repeat (first | exact (Kd.R_reads' HO_6.out).2.2 | (with_reducible refine Kd.C_alloc ?_ _) | (with_reducible refine Kd.C_drewN ?_ _) | (with_reducible refine Kd.C_drew ?_))); (case side2 => exact (Kd.R_reads' HO_6.out).2.1); rintro e w' ⟨rfl, ⟨nd, rfl⟩⟩; (try first | exact ⟨rfl, _, World.drewN_drewN _ _ _⟩ | exact ⟨rfl, _, Eq.trans (World.drewN_drewN _ _ _) (congrArg (World.drewN _) (Nat.add_assoc _ _ _))⟩); obtain ⟨Ao54, co54, eo54⟩ := Kd.R_slice HO_11.out; subst eo54; have p320 : 0 ≤ (t319 : Int) := of_decide_eq_true (by first | (with_reducible assumption) | assumption); have q320 : t319 < (t312.length : Int) := of_decide_eq_true (by first | (with_reducible assumption) | assumption); obtain ⟨ad320, e320, hx320_0⟩ := Kd.at_int (Kd.R_reads' HO_11.out).2.2 t319 p320 q320; cases e320; replace p320 := eq_true p320; replace q320 := eq_true q320; have p321 : 0 ≤ ((ji22) : Int) := of_decide_eq_true (by first | (with_reducible assumption) | assumption); have q321 : (ji22) < (t312.length : Int) := of_decide_eq_true (by first | (with_reducible assumption) | assumption); obtain ⟨ad321, e321, hx321_0⟩ := Kd.at_int (Kd.R_reads' HO_11.out).2.2 (ji22) p321 q321; obtain rfl : ad320 = ad321 := (by injection e321); replace p321 := eq_true p321; replace q321 := eq_true q321)))
                                                  go_roundg k4
                                                  case measure => have := HJ2.out; have := HK2.out; have := HJ28.out; have := HK4.out; omega
                                                  case rel => exact ⟨(wrap64 (x12_4 + 1)), (by first | rfl | (simp; done) | (simp [*]; done) | (congr 2; generalize ByteArray.toList _ = l_; cases l_ <;> rfl)), H', ⟨by have := HJ2.out; have := HK2.out; have := HJ28.out; have := HK4.out; omega⟩, ⟨by (try simp only [hl6_28]); (with_reducible repeat (first | apply Kd.R_alloc | apply Kd.R_drewN | apply Kd.R_drew)); exact HO_6.out⟩, ⟨by (try simp only [hl6_28]); (with_reducible repeat (first | apply Kd.R_alloc | apply Kd.R_drewN | apply Kd.R_drew)); exact HO_8.out⟩, ⟨by (try simp only [hl6_28]); (with_reducible repeat (first | apply Kd.R_alloc | apply Kd.R_drewN | apply Kd.R_drew)); exact HO_10.out⟩, ⟨by (try simp only [hl6_28]); (with_reducible repeat (first | apply Kd.R_alloc | apply Kd.R_drewN | apply Kd.R_drew)); exact HO_11.out⟩, ⟨by repeat (first | (with_reducible first | exact HB.out | apply below_alloc | apply pw_below_drewN | apply below_drew1) | exact HB.out)⟩⟩
                                                · rw [if_neg c53] at H
                                                  have c53b0 : decide ((rd t312 (ji22)) < (rd t312 t319)) = false := decide_eq_false c53
                                                  clear c53
                                                  have H' := Aside0.mk H
                                                  clear H
                                                  have p318 : 0 ≤ (x12_4 : Int) := of_decide_eq_true (by first | (with_reducible assumption) | assumption)
                                                  have q318 : x12_4 < (t305.length : Int) := of_decide_eq_true (by first | (with_reducible assumption) | assumption)
                                                  obtain ⟨ad318, e318, hx318_0⟩ := Kd.at_int (Kd.R_reads' HO_8.out).2.2 x12_4 p318 q318
                                                  cases e318
                                                  replace p318 := eq_true p318
                                                  replace q318 := eq_true q318
                                                  go_wp2_with (first | (go_at_call 19; (with_reducible refine (casementref16_Place.calls k4 _ _ y304 (rd t305 x12_4) t319 _ ?side1 ?side2 A48.out).mono ?_); (case side1 => repeat (first | exact (Kd.R_reads' HO_6.out).2.2 | (with_reducible refine Kd.C_alloc ?_ _) | (with_reducible refine Kd.C_drewN ?_ _) | (with_reducible refine Kd.C_drew ?_))); (case side2 => exact (Kd.R_reads' HO_6.out).2.1); rintro e w' ⟨rfl, ⟨nd, rfl⟩⟩; (try first | exact ⟨rfl, _, World.drewN_drewN _ _ _⟩ | exact ⟨rfl, _, Eq.trans (World.drewN_drewN _ _ _) (congrArg (World.drewN _) (Nat.add_assoc _ _ _))⟩); obtain ⟨Ao55, co55, eo55⟩ := Kd.R_slice HO_11.out; subst eo55; have p320 : 0 ≤ (t319 : Int) := of_decide_eq_true (by first | (with_reducible assumption) | assumption); have q320 : t319 < (t312.length : Int) := of_decide_eq_true (by first | (with_reducible assumption) | assumption); obtain ⟨ad320, e320, hx320_0⟩ := Kd.at_int (Kd.R_reads' HO_11.out).2.2 t319 p320 q320; cases e320; replace p320 := eq_true p320; replace q320 := eq_true q320; have p321 : 0 ≤ ((ji22) : Int) := of_decide_eq_true (by first | (with_reducible assumption) | assumption); have q321 : (ji22) < (t312.length : Int) := of_decide_eq_true (by first | (with_reducible assumption) | assumption); obtain ⟨ad321, e321, hx321_0⟩ := Kd.at_int (Kd.R_reads' HO_11.out).2.2 (ji22) p321 q321; obtain rfl : ad320 = ad321 := (by injection e321); replace p321 := eq_true p321; replace q321 := eq_true q321))
                                                  repeat (go_quiet (first | (go_at_call 19; (with_reducible refine (casementref16_Place.calls k4 _ _ y304 (rd t305 x12_4) t319 _ ?side1 ?side2 A48.out).mono ?_); (case side1 => repeat (first | exact (Kd.R_reads' HO_6.out).2.2 | (with_reducible refine Kd.C_alloc ?_ _) | (with_reducible refine Kd.C_drewN ?_ _) | (with_reducible refine Kd.C_drew ?_))); (case side2 => exact (Kd.R_reads' HO_6.out).2.1); rintro e w' ⟨rfl, ⟨nd, rfl⟩⟩; (try first | exact ⟨rfl, _, World.drewN_drewN _ _ _⟩ | exact ⟨rfl, _, Eq.trans (World.drewN_drewN _ _ _) (congrArg (World.drewN _) (Nat.add_assoc _ _ _))⟩); obtain ⟨Ao55, co55, eo55⟩ := Kd.R_slice HO_11.out; subst eo55; have p320 : 0 ≤ (t319 : Int) := of_decide_eq_true (by first | (with_reducible assumption) | assumption); have q320 : t319 < (t312.length : Int) := of_decide_eq_true (by first | (with_reducible assumption) | assumption); obtain ⟨ad320, e320, hx320_0⟩ := Kd.at_int (Kd.R_reads' HO_11.out).2.2 t319 p320 q320; cases e320; replace p320 := eq_true p320; replace q320 := eq_true q320; have p321 : 0 ≤ ((ji22) : Int) := of_decide_eq_true (by first | (with_reducible assumption) | assumption); have q321 : (ji22) < (t312.length : Int) := of_decide_eq_true (by first | (with_reducible assumption) | assumption); obtain ⟨ad321, e321, hx321_0⟩ := Kd.at_int (Kd.R_reads' HO_11.out).2.2 (ji22) p321 q321; obtain rfl : ad320 = ad321 := (by injection e321); replace p321 := eq_true p321; replace q321 := eq_true q321)); try go_wp2_with (first | (go_at_call 19; (with_reducible refine (casementref16_Place.calls k4 _ _ y304 (rd t305 x12_4) t319 _ ?side1 ?side2 A48.out).mono ?_); (case side1 => repeat (first | exact (Kd.R_reads' HO_6.out).2.2 | (with_reducible refine Kd.C_alloc ?_ _) | (with_reducible refine Kd.C_drewN ?_ _) | (with_reducible refine Kd.C_drew ?_))); (case side2 => exact (Kd.R_reads' HO_6.out).2.1); rintro e w' ⟨rfl, ⟨nd, rfl⟩⟩; (try first | exact ⟨rfl, _, World.drewN_drewN _ _ _⟩ | exact ⟨rfl, _, Eq.trans (World.drewN_drewN _ _ _) (congrArg (World.drewN _) (Nat.add_assoc _ _ _))⟩); obtain ⟨Ao55, co55, eo55⟩ := Kd.R_slice HO_11.out; subst eo55; have p320 : 0 ≤ (t319 : Int) := of_decide_eq_true (by first | (with_reducible assumption) | assumption); have q320 : t319 < (t312.length : Int) := of_decide_eq_true (by first | (with_reducible assumption) | assumption); obtain ⟨ad320, e320, hx320_0⟩ := Kd.at_int (Kd.R_reads' HO_11.out).2.2 t319 p320 q320; cases e320; replace p320 := eq_true p320; replace q320 := eq_true q320; have p321 : 0 ≤ ((ji22) : Int) := of_decide_eq_true (by first | (with_reducible assumption) | assumption); have q321 : (ji22) < (t312.length : Int) := of_decide_eq_true (by first | (with_reducible assumption) | assumption); obtain ⟨ad321, e321, hx321_0⟩ := Kd.at_int (Kd.R_reads' HO_11.out).2.2 (ji22) p321 q321; obtain rfl : ad320 = ad321 := (by injection e321); replace p321 := eq_true p321; replace q321 := eq_true q321)))
                                                  go_loopg [13, 14] k4 (fun kq v13 v14 w' => ∃ (x13_5 : Int) (x14_5 : Int), v13 = .int .i64 x13_5 ∧ v14 = .int .i64 x14_5 ∧ Aside0 (casementlaw16_OrderRaises.l2 kq (ji22) y304 t305 t309 t312 x12_4 x13_5 x14_5 = some r) ∧ Aside0 (kq ≤ k4) ∧ Aside0 (Kd.R k38 38 w' w.heap.size (fun _ => True) (.slice (some ⟨go25, 0, none⟩) y304.length co30) y304) ∧ Aside0 (Kd.R (Kd.int .i64) 3 w' w.heap.size (fun k_ => some k_ ≠ (v310 : Value).ownBlock ∧ some k_ ≠ ((.slice (some ad320) t312.length co55) : Value).ownBlock) (.slice (some ad318) t305.length co45) t305) ∧ Aside0 (Kd.R (Kd.int .i64) 3 w' w.heap.size (fun k_ => some k_ ≠ ((.slice (some ad318) t305.length co45) : Value).ownBlock ∧ some k_ ≠ ((.slice (some ad320) t312.length co55) : Value).ownBlock) v310 t309) ∧ Aside0 (Kd.R (Kd.int .i64) 3 w' w.heap.size (fun k_ => some k_ ≠ ((.slice (some ad318) t305.length co45) : Value).ownBlock ∧ some k_ ≠ (v310 : Value).ownBlock) (.slice (some ad320) t312.length co55) t312) ∧ Aside0 (Below w.heap.size w w'))
                                                  case atStart => exact ⟨(t319), (0), (by first | rfl | (simp; done) | (simp [*]; done) | (congr 2; generalize ByteArray.toList _ = l_; cases l_ <;> rfl)), (by first | rfl | (simp; done) | (simp [*]; done) | (congr 2; generalize ByteArray.toList _ = l_; cases l_ <;> rfl)), H', ⟨Nat.le_refl _⟩, ⟨by (try simp only [hl6_28]); (with_reducible repeat (first | apply Kd.R_alloc | apply Kd.R_drewN | apply Kd.R_drew)); exact HO_6.out⟩, ⟨by (try simp only [hl6_28]); (with_reducible repeat (first | apply Kd.R_alloc | apply Kd.R_drewN | apply Kd.R_drew)); exact HO_8.out⟩, ⟨by (try simp only [hl6_28]); (with_reducible repeat (first | apply Kd.R_alloc | apply Kd.R_drewN | apply Kd.R_drew)); exact HO_10.out⟩, ⟨by (try simp only [hl6_28]); (with_reducible repeat (first | apply Kd.R_alloc | apply Kd.R_drewN | apply Kd.R_drew)); exact HO_11.out⟩, ⟨by repeat (first | (with_reducible first | exact HB.out | apply below_alloc | apply pw_below_drewN | apply below_drew1) | exact HB.out)⟩⟩
                                                  case round =>
                                                    clear H'
                                                    try clear c1
                                                    try clear c2
                                                    try clear p2
                                                    try clear q2
                                                    try clear hx2
                                                    try clear hf2
                                                    try clear c3
                                                    try clear p3
                                                    try clear q3
                                                    try clear hx3
                                                    try clear hf3
                                                    try clear c4
                                                    try clear c4b0
                                                    try clear c4b1
                                                    try clear c4b2
                                                    try clear c5
                                                    try clear p6
                                                    try clear c7
                                                    try clear c10
                                                    try clear c10b0
                                                    try clear c10b1
                                                    try clear c11
                                                    try clear c15
                                                    try clear c15b0
                                                    try clear c16
                                                    try clear c16b0
                                                    try clear c17
                                                    try clear c17b0
                                                    try clear c23
                                                    try clear c23b0
                                                    try clear c24
                                                    try clear c24b0
                                                    try clear c25
                                                    try clear p25
                                                    try clear q25
                                                    try clear hx25
                                                    try clear hf25
                                                    try clear p30
                                                    try clear q30
                                                    try clear hx30
                                                    try clear c31
                                                    try clear p31
                                                    try clear q31
                                                    try clear hx31
                                                    try clear hf31
                                                    try clear p32
                                                    try clear q32
                                                    try clear hx32
                                                    try clear c36
                                                    try clear c36b0
                                                    try clear c36b1
                                                    try clear c37
                                                    try clear c37b0
                                                    try clear c37b1
                                                    try clear c37b2
                                                    try clear c41
                                                    try clear c42
                                                    try clear c42b0
                                                    try clear c43
                                                    try clear c43b0
                                                    try clear c46
                                                    try clear c46b0
                                                    try clear c47
                                                    try clear c47b0
                                                    try clear c49
                                                    try clear c49b0
                                                    try clear c50
                                                    try clear c50b0
                                                    try clear c51
                                                    try clear c51b0
                                                    try clear c52
                                                    try clear c52b0
                                                    try clear c53
                                                    try clear c53b0
                                                    try clear hx25_0
                                                    try clear hx25_1
                                                    try clear hx25_2
                                                    try clear hx25_3
                                                    try clear hx25_4
                                                    try clear hx25_5
                                                    try clear hx302_0
                                                    try clear hx302_1
                                                    try clear hx302_2
                                                    try clear hx302_3
                                                    try clear hx302_4
                                                    try clear hx302_5
                                                    try clear hx315_0
                                                    try clear hx315_1
                                                    try clear hx315_2
                                                    try clear hx315_3
                                                    try clear hx315_4
                                                    try clear hx315_5
                                                    try clear hx318_0
                                                    try clear hx31_4
                                                    try clear hx320_0
                                                    try clear hx321_0
                                                    try clear p2
                                                    try clear p25
                                                    try clear p3
                                                    try clear p30
                                                    try clear p302
                                                    try clear p31
                                                    try clear p315
                                                    try clear p318
                                                    try clear p320
                                                    try clear p321
                                                    try clear p6
                                                    try clear q2
                                                    try clear q25
                                                    try clear q3
                                                    try clear q30
                                                    try clear q302
                                                    try clear q31
                                                    try clear q315
                                                    try clear q318
                                                    try clear q320
                                                    try clear q321
                                                    obtain ⟨x13_5, x14_5, rfl, rfl, HA, HK5, HO_6, HO_8, HO_10, HO_11, HB⟩ := hrel
                                                    cases gk with
                                                    | zero => exact absurd HA.out (by simp [casementlaw16_OrderRaises.l2])
                                                    | succ k5 =>
                                                      have H := HA.out
                                                      clear HA
                                                      simp only [casementlaw16_OrderRaises.l2] at H
                                                      by_cases c56 : x14_5 < (y304.length : Int)
                                                      · rw [if_pos c56] at H
                                                        have c56b0 : decide (x14_5 < (y304.length : Int)) = true := decide_eq_true c56
                                                        clear c56
                                                        by_cases c57 : 0 ≤ x13_5
                                                        · rw [if_pos c57] at H
                                                          have c57b0 : decide (0 ≤ x13_5) = true := decide_eq_true c57
                                                          clear c57
                                                          by_cases c58 : x13_5 < (t309.length : Int)
                                                          · rw [if_pos c58] at H
                                                            have c58b0 : decide (x13_5 < (t309.length : Int)) = true := decide_eq_true c58
                                                            clear c58
                                                            by_cases c59 : (rd t309 x13_5) = 0
                                                            · rw [if_pos c59] at H
                                                              have c59b0 : ((rd t309 x13_5) == 0) = true := beq_iff_eq.mpr c59
                                                              have c59b1 : ((rd t309 x13_5) != 0) = false := bne_eq_false_iff_eq.mpr c59
                                                              clear c59
                                                              by_cases c60 : x13_5 = (ji22)
                                                              · rw [if_pos c60] at H
                                                                have c60b0 : (x13_5 == (ji22)) = true := beq_iff_eq.mpr c60
                                                                have c60b1 : (x13_5 != (ji22)) = false := bne_eq_false_iff_eq.mpr c60
                                                                clear c60
                                                                have H' := Aside0.mk H
                                                                clear H
                                                                obtain ⟨Ao61, co61, eo61⟩ := Kd.R_slice HO_10.out
                                                                subst eo61
                                                                have p322 : 0 ≤ (x13_5 : Int) := of_decide_eq_true (by first | (with_reducible assumption) | assumption)
                                                                have q322 : x13_5 < (t309.length : Int) := of_decide_eq_true (by first | (with_reducible assumption) | assumption)
                                                                obtain ⟨ad322, e322, hx322_0⟩ := Kd.at_int (Kd.R_reads' HO_10.out).2.2 x13_5 p322 q322
                                                                cases e322
                                                                replace p322 := eq_true p322
                                                                replace q322 := eq_true q322
                                                                go_wp2
                                                                repeat (go_quiet (fail); try go_wp2)
                                                                go_roundg k5
                                                                case measure => have := HJ2.out; have := HK2.out; have := HJ28.out; have := HK4.out; have := HK5.out; omega
                                                                case rel => exact ⟨(wrap64 (x12_4 + 1)), (by first | rfl | (simp; done) | (simp [*]; done) | (congr 2; generalize ByteArray.toList _ = l_; cases l_ <;> rfl)), H', ⟨by have := HJ2.out; have := HK2.out; have := HJ28.out; have := HK4.out; have := HK5.out; omega⟩, ⟨by (try simp only [hl6_28]); (with_reducible repeat (first | apply Kd.R_alloc | apply Kd.R_drewN | apply Kd.R_drew)); exact HO_6.out⟩, ⟨by (try simp only [hl6_28]); (with_reducible repeat (first | apply Kd.R_alloc | apply Kd.R_drewN | apply Kd.R_drew)); exact HO_8.out⟩, ⟨by (try simp only [hl6_28]); (with_reducible repeat (first | apply Kd.R_alloc | apply Kd.R_drewN | apply Kd.R_drew)); exact HO_10.out⟩, ⟨by (try simp only [hl6_28]); (with_reducible repeat (first | apply Kd.R_alloc | apply Kd.R_drewN | apply Kd.R_drew)); exact HO_11.out⟩, ⟨by repeat (first | (with_reducible first | exact HB.out | apply below_alloc | apply pw_below_drewN | apply below_drew1) | exact HB.out)⟩⟩
                                                              · rw [if_neg c60] at H
                                                                have c60b0 : (x13_5 == (ji22)) = false := beq_eq_false_iff_ne.mpr c60
                                                                have c60b1 : (x13_5 != (ji22)) = true := bne_iff_ne.mpr c60
                                                                obtain rfl := Option.some.inj H
                                                                obtain ⟨Ao62, co62, eo62⟩ := Kd.R_slice HO_10.out
                                                                subst eo62
                                                                have p322 : 0 ≤ (x13_5 : Int) := of_decide_eq_true (by first | (with_reducible assumption) | assumption)
                                                                have q322 : x13_5 < (t309.length : Int) := of_decide_eq_true (by first | (with_reducible assumption) | assumption)
                                                                obtain ⟨ad322, e322, hx322_0⟩ := Kd.at_int (Kd.R_reads' HO_10.out).2.2 x13_5 p322 q322
                                                                cases e322
                                                                replace p322 := eq_true p322
                                                                replace q322 := eq_true q322
                                                                go_wp2
                                                                repeat (go_quiet (fail); try go_wp2)
                                                                go_ret
                                                                exact ⟨by first | rfl | (simp [errW_none, errW_some] <;> rfl) | (simp only [← hji22]; first | rfl | (simp [errW_none, errW_some] <;> rfl)) | (simp [*, errW_none, errW_some] <;> rfl), by repeat (first | (with_reducible first | exact HB.out | apply below_alloc | apply pw_below_drewN | apply below_drew1) | exact HB.out)⟩
                                                            · rw [if_neg c59] at H
                                                              have c59b0 : ((rd t309 x13_5) == 0) = false := beq_eq_false_iff_ne.mpr c59
                                                              have c59b1 : ((rd t309 x13_5) != 0) = true := bne_iff_ne.mpr c59
                                                              by_cases c63 : x13_5 = (ji22)
                                                              · rw [if_pos c63] at H
                                                                have c63b0 : (x13_5 == (ji22)) = true := beq_iff_eq.mpr c63
                                                                have c63b1 : (x13_5 != (ji22)) = false := bne_eq_false_iff_eq.mpr c63
                                                                clear c63
                                                                have H' := Aside0.mk H
                                                                clear H
                                                                obtain ⟨Ao64, co64, eo64⟩ := Kd.R_slice HO_10.out
                                                                subst eo64
                                                                have p322 : 0 ≤ (x13_5 : Int) := of_decide_eq_true (by first | (with_reducible assumption) | assumption)
                                                                have q322 : x13_5 < (t309.length : Int) := of_decide_eq_true (by first | (with_reducible assumption) | assumption)
                                                                obtain ⟨ad322, e322, hx322_0⟩ := Kd.at_int (Kd.R_reads' HO_10.out).2.2 x13_5 p322 q322
                                                                cases e322
                                                                replace p322 := eq_true p322
                                                                replace q322 := eq_true q322
                                                                go_wp2
                                                                repeat (go_quiet (fail); try go_wp2)
                                                                go_roundg k5
                                                                case measure => have := HJ2.out; have := HK2.out; have := HJ28.out; have := HK4.out; have := HK5.out; omega
                                                                case rel => exact ⟨(wrap64 (x12_4 + 1)), (by first | rfl | (simp; done) | (simp [*]; done) | (congr 2; generalize ByteArray.toList _ = l_; cases l_ <;> rfl)), H', ⟨by have := HJ2.out; have := HK2.out; have := HJ28.out; have := HK4.out; have := HK5.out; omega⟩, ⟨by (try simp only [hl6_28]); (with_reducible repeat (first | apply Kd.R_alloc | apply Kd.R_drewN | apply Kd.R_drew)); exact HO_6.out⟩, ⟨by (try simp only [hl6_28]); (with_reducible repeat (first | apply Kd.R_alloc | apply Kd.R_drewN | apply Kd.R_drew)); exact HO_8.out⟩, ⟨by (try simp only [hl6_28]); (with_reducible repeat (first | apply Kd.R_alloc | apply Kd.R_drewN | apply Kd.R_drew)); exact HO_10.out⟩, ⟨by (try simp only [hl6_28]); (with_reducible repeat (first | apply Kd.R_alloc | apply Kd.R_drewN | apply Kd.R_drew)); exact HO_11.out⟩, ⟨by repeat (first | (with_reducible first | exact HB.out | apply below_alloc | apply pw_below_drewN | apply below_drew1) | exact HB.out)⟩⟩
                                                              · rw [if_neg c63] at H
                                                                have c63b0 : (x13_5 == (ji22)) = false := beq_eq_false_iff_ne.mpr c63
                                                                have c63b1 : (x13_5 != (ji22)) = true := bne_iff_ne.mpr c63
                                                                replace H := Option.bind_eq_some_iff.mp H
                                                                obtain ⟨t324, A650, H⟩ := H
                                                                replace H : (casementlaw16_OrderRaises.l2 k5 (ji22) y304 t305 t309 t312 x12_4 t324 (wrap64 (x14_5 + 1))) = some r := H
                                                                have A65 := Aside0.mk A650
                                                                clear A650
                                                                have H' := Aside0.mk H
                                                                clear H
                                                                obtain ⟨Ao66, co66, eo66⟩ := Kd.R_slice HO_10.out
                                                                subst eo66
                                                                have p322 : 0 ≤ (x13_5 : Int) := of_decide_eq_true (by first | (with_reducible assumption) | assumption)
                                                                have q322 : x13_5 < (t309.length : Int) := of_decide_eq_true (by first | (with_reducible assumption) | assumption)
                                                                obtain ⟨ad322, e322, hx322_0⟩ := Kd.at_int (Kd.R_reads' HO_10.out).2.2 x13_5 p322 q322
                                                                cases e322
                                                                replace p322 := eq_true p322
                                                                replace q322 := eq_true q322
                                                                have p323 : 0 ≤ (x13_5 : Int) := of_decide_eq_true (by first | (with_reducible assumption) | assumption)
                                                                have q323 : x13_5 < (t309.length : Int) := of_decide_eq_true (by first | (with_reducible assumption) | assumption)
                                                                obtain ⟨ad323, e323, hx323_0⟩ := Kd.at_int (Kd.R_reads' HO_10.out).2.2 x13_5 p323 q323
                                                                obtain rfl : ad322 = ad323 := (by injection e323)
                                                                replace p323 := eq_true p323
                                                                replace q323 := eq_true q323
                                                                go_wp2_with (first | (go_at_call 19; (with_reducible refine (casementref16_Place.calls k5 _ _ y304 (rd t309 x13_5) t324 _ ?side1 ?side2 A65.out).mono ?_); (case side1 => repeat (first | exact (Kd.R_reads' HO_6.out).2.2 | (with_reducible refine Kd.C_alloc ?_ _) | (with_reducible refine Kd.C_drewN ?_ _) | (with_reducible refine Kd.C_drew ?_))); (case side2 => exact (Kd.R_reads' HO_6.out).2.1); rintro e w' ⟨rfl, ⟨nd, rfl⟩⟩; (try first | exact ⟨rfl, _, World.drewN_drewN _ _ _⟩ | exact ⟨rfl, _, Eq.trans (World.drewN_drewN _ _ _) (congrArg (World.drewN _) (Nat.add_assoc _ _ _))⟩)))
                                                                repeat (go_quiet (first | (go_at_call 19; (with_reducible refine (casementref16_Place.calls k5 _ _ y304 (rd t309 x13_5) t324 _ ?side1 ?side2 A65.out).mono ?_); (case side1 => repeat (first | exact (Kd.R_reads' HO_6.out).2.2 | (with_reducible refine Kd.C_alloc ?_ _) | (with_reducible refine Kd.C_drewN ?_ _) | (with_reducible refine Kd.C_drew ?_))); (case side2 => exact (Kd.R_reads' HO_6.out).2.1); rintro e w' ⟨rfl, ⟨nd, rfl⟩⟩; (try first | exact ⟨rfl, _, World.drewN_drewN _ _ _⟩ | exact ⟨rfl, _, Eq.trans (World.drewN_drewN _ _ _) (congrArg (World.drewN _) (Nat.add_assoc _ _ _))⟩))); try go_wp2_with (first | (go_at_call 19; (with_reducible refine (casementref16_Place.calls k5 _ _ y304 (rd t309 x13_5) t324 _ ?side1 ?side2 A65.out).mono ?_); (case side1 => repeat (first | exact (Kd.R_reads' HO_6.out).2.2 | (with_reducible refine Kd.C_alloc ?_ _) | (with_reducible refine Kd.C_drewN ?_ _) | (with_reducible refine Kd.C_drew ?_))); (case side2 => exact (Kd.R_reads' HO_6.out).2.1); rintro e w' ⟨rfl, ⟨nd, rfl⟩⟩; (try first | exact ⟨rfl, _, World.drewN_drewN _ _ _⟩ | exact ⟨rfl, _, Eq.trans (World.drewN_drewN _ _ _) (congrArg (World.drewN _) (Nat.add_assoc _ _ _))⟩))))
                                                                go_roundg k5
                                                                case measure => have := HJ2.out; have := HK2.out; have := HJ28.out; have := HK4.out; have := HK5.out; omega
                                                                case rel => exact ⟨(t324), (wrap64 (x14_5 + 1)), (by first | rfl | (simp; done) | (simp [*]; done) | (congr 2; generalize ByteArray.toList _ = l_; cases l_ <;> rfl)), (by first | rfl | (simp; done) | (simp [*]; done) | (congr 2; generalize ByteArray.toList _ = l_; cases l_ <;> rfl)), H', ⟨by have := HJ2.out; have := HK2.out; have := HJ28.out; have := HK4.out; have := HK5.out; omega⟩, ⟨by (try simp only [hl6_28]); (with_reducible repeat (first | apply Kd.R_alloc | apply Kd.R_drewN | apply Kd.R_drew)); exact HO_6.out⟩, ⟨by (try simp only [hl6_28]); (with_reducible repeat (first | apply Kd.R_alloc | apply Kd.R_drewN | apply Kd.R_drew)); exact HO_8.out⟩, ⟨by (try simp only [hl6_28]); (with_reducible repeat (first | apply Kd.R_alloc | apply Kd.R_drewN | apply Kd.R_drew)); exact HO_10.out⟩, ⟨by (try simp only [hl6_28]); (with_reducible repeat (first | apply Kd.R_alloc | apply Kd.R_drewN | apply Kd.R_drew)); exact HO_11.out⟩, ⟨by repeat (first | (with_reducible first | exact HB.out | apply below_alloc | apply pw_below_drewN | apply below_drew1) | exact HB.out)⟩⟩
                                                          · rw [if_neg c58] at H
                                                            exact absurd H (by simp)
                                                        · rw [if_neg c57] at H
                                                          exact absurd H (by simp)
                                                      · rw [if_neg c56] at H
                                                        have c56b0 : decide (x14_5 < (y304.length : Int)) = false := decide_eq_false c56
                                                        clear c56
                                                        by_cases c67 : x13_5 = (ji22)
                                                        · rw [if_pos c67] at H
                                                          have c67b0 : (x13_5 == (ji22)) = true := beq_iff_eq.mpr c67
                                                          have c67b1 : (x13_5 != (ji22)) = false := bne_eq_false_iff_eq.mpr c67
                                                          clear c67
                                                          have H' := Aside0.mk H
                                                          clear H
                                                          go_wp2
                                                          repeat (go_quiet (fail); try go_wp2)
                                                          go_roundg k5
                                                          case measure => have := HJ2.out; have := HK2.out; have := HJ28.out; have := HK4.out; have := HK5.out; omega
                                                          case rel => exact ⟨(wrap64 (x12_4 + 1)), (by first | rfl | (simp; done) | (simp [*]; done) | (congr 2; generalize ByteArray.toList _ = l_; cases l_ <;> rfl)), H', ⟨by have := HJ2.out; have := HK2.out; have := HJ28.out; have := HK4.out; have := HK5.out; omega⟩, ⟨by (try simp only [hl6_28]); (with_reducible repeat (first | apply Kd.R_alloc | apply Kd.R_drewN | apply Kd.R_drew)); exact HO_6.out⟩, ⟨by (try simp only [hl6_28]); (with_reducible repeat (first | apply Kd.R_alloc | apply Kd.R_drewN | apply Kd.R_drew)); exact HO_8.out⟩, ⟨by (try simp only [hl6_28]); (with_reducible repeat (first | apply Kd.R_alloc | apply Kd.R_drewN | apply Kd.R_drew)); exact HO_10.out⟩, ⟨by (try simp only [hl6_28]); (with_reducible repeat (first | apply Kd.R_alloc | apply Kd.R_drewN | apply Kd.R_drew)); exact HO_11.out⟩, ⟨by repeat (first | (with_reducible first | exact HB.out | apply below_alloc | apply pw_below_drewN | apply below_drew1) | exact HB.out)⟩⟩
                                                        · rw [if_neg c67] at H
                                                          have c67b0 : (x13_5 == (ji22)) = false := beq_eq_false_iff_ne.mpr c67
                                                          have c67b1 : (x13_5 != (ji22)) = true := bne_iff_ne.mpr c67
                                                          obtain rfl := Option.some.inj H
                                                          go_wp2
                                                          repeat (go_quiet (fail); try go_wp2)
                                                          go_ret
                                                          exact ⟨by first | rfl | (simp [errW_none, errW_some] <;> rfl) | (simp only [← hji22]; first | rfl | (simp [errW_none, errW_some] <;> rfl)) | (simp [*, errW_none, errW_some] <;> rfl), by repeat (first | (with_reducible first | exact HB.out | apply below_alloc | apply pw_below_drewN | apply below_drew1) | exact HB.out)⟩
                                              · rw [if_neg c52] at H
                                                exact absurd H (by simp)
                                            · rw [if_neg c51] at H
                                              exact absurd H (by simp)
                                          · rw [if_neg c50] at H
                                            exact absurd H (by simp)
                                        · rw [if_neg c49] at H
                                          exact absurd H (by simp)
                                      · rw [if_neg c47] at H
                                        exact absurd H (by simp)
                                    · rw [if_neg c46] at H
                                      have c46b0 : decide (x12_4 < (t305.length : Int)) = false := decide_eq_false c46
                                      clear c46
                                      replace H := Option.bind_eq_some_iff.mp H
                                      obtain ⟨t317, A680, H⟩ := H
                                      replace H : (some t317) = some r := H
                                      have A68 := Aside0.mk A680
                                      clear A680
                                      obtain rfl := Option.some.inj H
                                      go_wp2_with (first | (go_at_call 16; (with_reducible refine (casementlaw16_awake.calls k4  t317 _ A68.out).mono ?_); rintro e w69 ⟨rfl, hb⟩; have n0_ := Aside0.mk (Kd.R_below (by (with_reducible repeat (first | apply Kd.R_alloc | apply Kd.R_drewN | apply Kd.R_drew)); exact HO_6.out) hb); have n1_ := Aside0.mk (Kd.R_below (by (with_reducible repeat (first | apply Kd.R_alloc | apply Kd.R_drewN | apply Kd.R_drew)); exact HO_8.out) hb); have n2_ := Aside0.mk (Kd.R_below (by (with_reducible repeat (first | apply Kd.R_alloc | apply Kd.R_drewN | apply Kd.R_drew)); exact HO_10.out) hb); have n3_ := Aside0.mk (Kd.R_below (by (with_reducible repeat (first | apply Kd.R_alloc | apply Kd.R_drewN | apply Kd.R_drew)); exact HO_11.out) hb); have n4_ := Aside0.mk (below_step (by repeat (first | (with_reducible first | exact HB.out | apply below_alloc | apply pw_below_drewN | apply below_drew1) | exact HB.out)) hb); clear HO_6; clear HO_8; clear HO_10; clear HO_11; clear HB; have HO_6 := n0_; have HO_8 := n1_; have HO_10 := n2_; have HO_11 := n3_; have HB := n4_; clear n0_ n1_ n2_ n3_ n4_; (try clear hb); (try clear hb2); (try clear hk); (try clear hi)))
                                      repeat (go_quiet (first | (go_at_call 16; (with_reducible refine (casementlaw16_awake.calls k4  t317 _ A68.out).mono ?_); rintro e w69 ⟨rfl, hb⟩; have n0_ := Aside0.mk (Kd.R_below (by (with_reducible repeat (first | apply Kd.R_alloc | apply Kd.R_drewN | apply Kd.R_drew)); exact HO_6.out) hb); have n1_ := Aside0.mk (Kd.R_below (by (with_reducible repeat (first | apply Kd.R_alloc | apply Kd.R_drewN | apply Kd.R_drew)); exact HO_8.out) hb); have n2_ := Aside0.mk (Kd.R_below (by (with_reducible repeat (first | apply Kd.R_alloc | apply Kd.R_drewN | apply Kd.R_drew)); exact HO_10.out) hb); have n3_ := Aside0.mk (Kd.R_below (by (with_reducible repeat (first | apply Kd.R_alloc | apply Kd.R_drewN | apply Kd.R_drew)); exact HO_11.out) hb); have n4_ := Aside0.mk (below_step (by repeat (first | (with_reducible first | exact HB.out | apply below_alloc | apply pw_below_drewN | apply below_drew1) | exact HB.out)) hb); clear HO_6; clear HO_8; clear HO_10; clear HO_11; clear HB; have HO_6 := n0_; have HO_8 := n1_; have HO_10 := n2_; have HO_11 := n3_; have HB := n4_; clear n0_ n1_ n2_ n3_ n4_; (try clear hb); (try clear hb2); (try clear hk); (try clear hi))); try go_wp2_with (first | (go_at_call 16; (with_reducible refine (casementlaw16_awake.calls k4  t317 _ A68.out).mono ?_); rintro e w69 ⟨rfl, hb⟩; have n0_ := Aside0.mk (Kd.R_below (by (with_reducible repeat (first | apply Kd.R_alloc | apply Kd.R_drewN | apply Kd.R_drew)); exact HO_6.out) hb); have n1_ := Aside0.mk (Kd.R_below (by (with_reducible repeat (first | apply Kd.R_alloc | apply Kd.R_drewN | apply Kd.R_drew)); exact HO_8.out) hb); have n2_ := Aside0.mk (Kd.R_below (by (with_reducible repeat (first | apply Kd.R_alloc | apply Kd.R_drewN | apply Kd.R_drew)); exact HO_10.out) hb); have n3_ := Aside0.mk (Kd.R_below (by (with_reducible repeat (first | apply Kd.R_alloc | apply Kd.R_drewN | apply Kd.R_drew)); exact HO_11.out) hb); have n4_ := Aside0.mk (below_step (by repeat (first | (with_reducible first | exact HB.out | apply below_alloc | apply pw_below_drewN | apply below_drew1) | exact HB.out)) hb); clear HO_6; clear HO_8; clear HO_10; clear HO_11; clear HB; have HO_6 := n0_; have HO_8 := n1_; have HO_10 := n2_; have HO_11 := n3_; have HB := n4_; clear n0_ n1_ n2_ n3_ n4_; (try clear hb); (try clear hb2); (try clear hk); (try clear hi))))
                                      go_ret
                                      exact ⟨by first | rfl | (simp [errW_none, errW_some] <;> rfl) | (simp only [← hji22]; first | rfl | (simp [errW_none, errW_some] <;> rfl)) | (simp [*, errW_none, errW_some] <;> rfl), by repeat (first | (with_reducible first | exact HB.out | apply below_alloc | apply pw_below_drewN | apply below_drew1) | exact HB.out)⟩
                              · rw [if_neg c43] at H
                                exact absurd H (by simp)
                            · rw [if_neg c42] at H
                              exact absurd H (by simp)
                    · rw [if_neg c24] at H
                      exact absurd H (by simp)
                  · rw [if_neg c23] at H
                    exact absurd H (by simp)
          · rw [if_neg c11] at H
            exact absurd H (by simp)

end Go.Proofs.Ytplchdlcolepmaa.P
