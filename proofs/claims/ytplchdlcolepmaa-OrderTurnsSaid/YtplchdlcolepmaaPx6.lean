-- WRITTEN by wip/tools/myprint.py of this session, a program over the kit's print
import Derived.Test.YtplchdlcolepmaaPx0
import Derived.Test.YtplchdlcolepmaaPx1
import Derived.Test.YtplchdlcolepmaaPx3
import Derived.Test.YtplchdlcolepmaaPx4
import Derived.Test.YtplchdlcolepmaaPx5
namespace Go.Proofs.Ytplchdlcolepmaa.P
open Go.RowKit Go.Proofs.YtplchdlcolepmaaW.PrintWords Go.Proofs.YtplchdlcolepmaaW.PrintLast Go.Proofs.YtplchdlcolepmaaW.PrintMore
attribute [local go_sem] max2_int min2_int max_two min_two max_three min_three max_four min_four   -- for this text's walks alone
set_option linter.unusedVariables false
set_option linter.unusedSimpArgs false

/-! ### casementref16_Order: function 18 -/
abbrev oT : Bool := true
abbrev oF : Bool := false
theorem sTA {α : Type} (l : List α) (i : Nat) (a : α) : l.toArray.setIfInBounds i a = (l.set i a).toArray := List.setIfInBounds_toArray ..
theorem sS0 {α : Type} (x a : α) (l : List α) : (x :: l).set 0 a = a :: l := rfl
theorem sS1 {α : Type} (x a : α) (l : List α) (n : Nat) : (x :: l).set (n + 1) a = x :: l.set n a := rfl
mutual
def casementref16_Order.l0 : Nat → List (S38) → List Int → List Int → List Bool → List Int → Int → Option (List Int × Int)
 | 0, _, _, _, _, _, _ => none
 | k + 1, x0, x4, x5, x6, x7, x8 => if x8 < (x0.length : Int) then (casementref16_Order.l1 k x0 x4 x5 x6 x7 x8 (-1) 0) else (some (x7, 0))
def casementref16_Order.l1 : Nat → List (S38) → List Int → List Int → List Bool → List Int → Int → Int → Int → Option (List Int × Int)
 | 0, _, _, _, _, _, _, _, _ => none
 | k + 1, x0, x4, x5, x6, x7, x8, x9, x10 => if x10 < (x0.length : Int) then (if 0 ≤ x10 then (if x10 < (x4.length : Int) then (if (rd x4 x10) = 0 then (if x10 < (x6.length : Int) then (if rdOf false x6 x10 = true then (casementref16_Order.l1 k x0 x4 x5 x6 x7 x8 x9 (wrap64 (x10 + 1))) else (if x9 < 0 then (casementref16_Order.l1 k x0 x4 x5 x6 x7 x8 x10 (wrap64 (x10 + 1))) else (if 0 ≤ x9 then (if x9 < (x0.length : Int) then (if x10 < (x5.length : Int) then (if x9 < (x5.length : Int) then ((casementref16_lower.f ((rd_T38 x0 x10).f0) ((rd_T38 x0 x10).f1) ((rd_T38 x0 x10).f2) ((rd_T38 x0 x10).f3) ((rd_T38 x0 x10).f4) ((rd_T38 x0 x10).f5) ((rd_T38 x0 x9).f0) ((rd_T38 x0 x9).f1) ((rd_T38 x0 x9).f2) ((rd_T38 x0 x9).f3) ((rd_T38 x0 x9).f4) ((rd_T38 x0 x9).f5) (rd x5 x10) (rd x5 x9)).bind fun t226 => (if t226 = true then (casementref16_Order.l1 k x0 x4 x5 x6 x7 x8 x10 (wrap64 (x10 + 1))) else (casementref16_Order.l1 k x0 x4 x5 x6 x7 x8 x9 (wrap64 (x10 + 1))))) else (none)) else (none)) else (none)) else (none)))) else (none)) else ((casementref16_Place.f k x0 (rd x4 x10)).bind fun t228 => (if 0 ≤ t228 then (if t228 < (x6.length : Int) then (if x10 < (x6.length : Int) then (if rdOf false x6 x10 = true then (casementref16_Order.l1 k x0 x4 x5 x6 x7 x8 x9 (wrap64 (x10 + 1))) else (if rdOf false x6 t228 = true then (if x9 < 0 then (casementref16_Order.l1 k x0 x4 x5 x6 x7 x8 x10 (wrap64 (x10 + 1))) else (if 0 ≤ x9 then (if x9 < (x0.length : Int) then (if x10 < (x5.length : Int) then (if x9 < (x5.length : Int) then ((casementref16_lower.f ((rd_T38 x0 x10).f0) ((rd_T38 x0 x10).f1) ((rd_T38 x0 x10).f2) ((rd_T38 x0 x10).f3) ((rd_T38 x0 x10).f4) ((rd_T38 x0 x10).f5) ((rd_T38 x0 x9).f0) ((rd_T38 x0 x9).f1) ((rd_T38 x0 x9).f2) ((rd_T38 x0 x9).f3) ((rd_T38 x0 x9).f4) ((rd_T38 x0 x9).f5) (rd x5 x10) (rd x5 x9)).bind fun t235 => (if t235 = true then (casementref16_Order.l1 k x0 x4 x5 x6 x7 x8 x10 (wrap64 (x10 + 1))) else (casementref16_Order.l1 k x0 x4 x5 x6 x7 x8 x9 (wrap64 (x10 + 1))))) else (none)) else (none)) else (none)) else (none))) else (casementref16_Order.l1 k x0 x4 x5 x6 x7 x8 x9 (wrap64 (x10 + 1))))) else (none)) else (none)) else (none)))) else (none)) else (none)) else (if 0 ≤ x9 then (if x9 < (x6.length : Int) then (if x9 < (x0.length : Int) then (if x7.length < 17592186044416 then (casementref16_Order.l0 k x0 x4 x5 (x6.set (x9 : Int).toNat true) (x7 ++ [(rd_T38 x0 x9).f0]) (wrap64 (x8 + 1))) else (none)) else (none)) else (none)) else (none))
end
def casementref16_Order.f (k : Nat) (l0 : List (S38)) : Option (List Int × Int) := (casementref16_Check.f k l0).bind fun t204 => (if t204 = 0 then ((casementref16_Owners.f k l0).bind fun t206 => ((casementref16_Bands.f k l0).bind fun t209 => (if 0 ≤ (l0.length : Int) then (if ((l0.length : Int) : Int).toNat ≤ 281474976710656 then (casementref16_Order.l0 k l0 t206 t209 (List.replicate ((l0.length : Int) : Int).toNat false) ([] : List Int) 0) else (none)) else (none)))) else ((casementref16_Check.f k l0).bind fun t205 => (some (([] : List Int), t205))))
theorem casementref16_Order.mono_l : ∀ k, (∀ y0 y1 y2 y3 y4 y5, LeO (casementref16_Order.l0 k y0 y1 y2 y3 y4 y5) (casementref16_Order.l0 (k + 1) y0 y1 y2 y3 y4 y5)) ∧ (∀ y0 y1 y2 y3 y4 y5 y6 y7, LeO (casementref16_Order.l1 k y0 y1 y2 y3 y4 y5 y6 y7) (casementref16_Order.l1 (k + 1) y0 y1 y2 y3 y4 y5 y6 y7))
 | 0 => ⟨fun _ _ _ _ _ _ r h => by simp [casementref16_Order.l0] at h, fun _ _ _ _ _ _ _ _ r h => by simp [casementref16_Order.l1] at h⟩
 | k + 1 => by
  obtain ⟨ih0, ih1⟩ := casementref16_Order.mono_l k
  refine ⟨?_, ?_⟩
  ·
   intro y0 y1 y2 y3 y4 y5
   unfold casementref16_Order.l0
   repeat' first
   | (with_reducible exact ih0 _ _ _ _ _ _)
   | (with_reducible exact ih1 _ _ _ _ _ _ _ _)
   | (with_reducible exact casementref16_Bands.mono _ _)
   | (with_reducible exact casementref16_Check.mono _ _)
   | (with_reducible exact casementref16_Owners.mono _ _)
   | (with_reducible exact casementref16_Place.mono _ _ _)
   | (with_reducible exact LeO.refl _)
   | (with_reducible exact LeO.none _)
   | (with_reducible refine LeO.ite ?_ ?_)
   | (with_reducible refine LeO.bind ?_ (fun _ => ?_))
   | exact ih0 _ _ _ _ _ _
   | exact ih1 _ _ _ _ _ _ _ _
   | exact casementref16_Bands.mono _ _
   | exact casementref16_Check.mono _ _
   | exact casementref16_Owners.mono _ _
   | exact casementref16_Place.mono _ _ _
   | exact LeO.none _
   | refine LeO.ite ?_ ?_
   | refine LeO.bind ?_ (fun _ => ?_)
  ·
   intro y0 y1 y2 y3 y4 y5 y6 y7
   unfold casementref16_Order.l1
   repeat' first
   | (with_reducible exact ih0 _ _ _ _ _ _)
   | (with_reducible exact ih1 _ _ _ _ _ _ _ _)
   | (with_reducible exact casementref16_Bands.mono _ _)
   | (with_reducible exact casementref16_Check.mono _ _)
   | (with_reducible exact casementref16_Owners.mono _ _)
   | (with_reducible exact casementref16_Place.mono _ _ _)
   | (with_reducible exact LeO.refl _)
   | (with_reducible exact LeO.none _)
   | (with_reducible refine LeO.ite ?_ ?_)
   | (with_reducible refine LeO.bind ?_ (fun _ => ?_))
   | exact ih0 _ _ _ _ _ _
   | exact ih1 _ _ _ _ _ _ _ _
   | exact casementref16_Bands.mono _ _
   | exact casementref16_Check.mono _ _
   | exact casementref16_Owners.mono _ _
   | exact casementref16_Place.mono _ _ _
   | exact LeO.none _
   | refine LeO.ite ?_ ?_
   | refine LeO.bind ?_ (fun _ => ?_)
theorem casementref16_Order.mono : ∀ a0 k, LeO (casementref16_Order.f k a0) (casementref16_Order.f (k + 1) a0) := by
 intro a0 k
 obtain ⟨ih0, ih1⟩ := casementref16_Order.mono_l k
 unfold casementref16_Order.f
 repeat' first
   | (with_reducible exact ih0 _ _ _ _ _ _)
   | (with_reducible exact ih1 _ _ _ _ _ _ _ _)
   | (with_reducible exact casementref16_Bands.mono _ _)
   | (with_reducible exact casementref16_Check.mono _ _)
   | (with_reducible exact casementref16_Owners.mono _ _)
   | (with_reducible exact casementref16_Place.mono _ _ _)
   | (with_reducible exact LeO.refl _)
   | (with_reducible exact LeO.none _)
   | (with_reducible refine LeO.ite ?_ ?_)
   | (with_reducible refine LeO.bind ?_ (fun _ => ?_))
   | exact ih0 _ _ _ _ _ _
   | exact ih1 _ _ _ _ _ _ _ _
   | exact casementref16_Bands.mono _ _
   | exact casementref16_Check.mono _ _
   | exact casementref16_Owners.mono _ _
   | exact casementref16_Place.mono _ _ _
   | exact LeO.none _
   | refine LeO.ite ?_ ?_
   | refine LeO.bind ?_ (fun _ => ?_)
def casementref16_Order.T14 : Bool × List (List Nat × List Nat) := (true, [([], []), ([], []), ([0, 1], [0, 1]), ([2], [2]), ([3], [3]), ([4], [4]), ([5], [5]), ([5, 6], [5, 6]), ([7, 5], [7]), ([8], [8]), ([9, 8], [8, 9]), ([10, 8, 8], [8, 10]), ([11], [11]), ([11], [11]), ([12, 13, 11], [11, 12, 13]), ([14, 11], [11, 14]), ([11], [11]), ([11], [11]), ([16, 17, 11], [11, 16, 17]), ([18, 11], [11, 18]), ([11], [11]), ([11], [11]), ([20, 21, 11], [11, 20, 21]), ([22, 11], [11, 22]), ([11], [11]), ([11], [11]), ([24, 25, 11], [11, 24, 25]), ([26, 11], [11, 26]), ([15, 19, 23, 27, 11, 11], [11, 15, 19, 23, 27]), ([11, 28, 8], [8, 11, 28]), ([8, 29], [8, 29])])
def casementref16_Order.B14 : List Nat := [0, 0, 3, 7, 15, 31, 63, 127, 255, 511, 1023, 2047, 4095, 4095, 16383, 32767, 4095, 4095, 200703, 462847, 4095, 4095, 3149823, 7344127, 4095, 4095, 50335743, 117444607, 268435455, 536870911, 1073741823]
theorem casementref16_Order.tab14 : rtab .any (opsOf Try.f18 14) = casementref16_Order.T14 := by kernel_rfl
theorem casementref16_Order.bits14 : waitsOk casementref16_Order.T14.2 casementref16_Order.B14 = true := by kernel_rfl
set_option maxHeartbeats 8000000 in
set_option maxRecDepth 100000 in
theorem casementref16_Order.calls (k : Nat) (A0 : Option Addr) (c0 : Nat) (l0 : List (S38)) (r1 : List Int) (r2 : Int) (w : World) (hr0 : Kd.C k38 w A0 l0.length l0) (hc0 : l0.length ≤ c0) (h : casementref16_Order.f k l0 = some (r1, r2)) :
  Calls Try.prog 18 #[.slice A0 l0.length c0] w fun e w' => ∃ v0_ : Value, e = .returned (.tuple #[v0_, .int .i64 r2]) ∧ Kd.R (Kd.int .i64) 3 w' w.heap.size (fun _ => True) v0_ r1 ∧ Below w.heap.size w w' := by
 have hu38 := Try.underlying38
 have HR0 := Aside0.mk hr0
 have HC0 := Aside0.mk hc0
 clear hr0 hc0
 have HB := Aside0.mk (Below.refl w.heap.size w)
 have H : ((casementref16_Check.f k l0).bind fun t204 => (if t204 = 0 then ((casementref16_Owners.f k l0).bind fun t206 => ((casementref16_Bands.f k l0).bind fun t209 => (if 0 ≤ (l0.length : Int) then (if ((l0.length : Int) : Int).toNat ≤ 281474976710656 then (casementref16_Order.l0 k l0 t206 t209 (List.replicate ((l0.length : Int) : Int).toNat false) ([] : List Int) 0) else (none)) else (none)))) else ((casementref16_Check.f k l0).bind fun t205 => (some (([] : List Int), t205))))) = some (r1, r2) := h
 clear h
 replace H := Option.bind_eq_some_iff.mp H
 obtain ⟨t204, A20, H⟩ := H
 replace H : (if t204 = 0 then ((casementref16_Owners.f k l0).bind fun t206 => ((casementref16_Bands.f k l0).bind fun t209 => (if 0 ≤ (l0.length : Int) then (if ((l0.length : Int) : Int).toNat ≤ 281474976710656 then (casementref16_Order.l0 k l0 t206 t209 (List.replicate ((l0.length : Int) : Int).toNat false) ([] : List Int) 0) else (none)) else (none)))) else ((casementref16_Check.f k l0).bind fun t205 => (some (([] : List Int), t205)))) = some (r1, r2) := H
 have A2 := Aside0.mk A20
 clear A20
 by_cases c3 : t204 = 0
 ·
  rw [if_pos c3] at H
  have c3b0 : (t204 == 0) = true := beq_iff_eq.mpr c3
  have c3b1 : (t204 != 0) = false := bne_eq_false_iff_eq.mpr c3
  clear c3
  replace H := Option.bind_eq_some_iff.mp H
  obtain ⟨t206, A40, H⟩ := H
  replace H : ((casementref16_Bands.f k l0).bind fun t209 => (if 0 ≤ (l0.length : Int) then (if ((l0.length : Int) : Int).toNat ≤ 281474976710656 then (casementref16_Order.l0 k l0 t206 t209 (List.replicate ((l0.length : Int) : Int).toNat false) ([] : List Int) 0) else (none)) else (none))) = some (r1, r2) := H
  have A4 := Aside0.mk A40
  clear A40
  replace H := Option.bind_eq_some_iff.mp H
  obtain ⟨t209, A50, H⟩ := H
  replace H : (if 0 ≤ (l0.length : Int) then (if ((l0.length : Int) : Int).toNat ≤ 281474976710656 then (casementref16_Order.l0 k l0 t206 t209 (List.replicate ((l0.length : Int) : Int).toNat false) ([] : List Int) 0) else (none)) else (none)) = some (r1, r2) := H
  have A5 := Aside0.mk A50
  clear A50
  by_cases c6 : 0 ≤ (l0.length : Int)
  ·
   rw [if_pos c6] at H
   have c6b0 := eq_true c6
   have c6b1 : decide (0 ≤ (l0.length : Int)) = true := decide_eq_true c6
   clear c6
   by_cases c7 : ((l0.length : Int) : Int).toNat ≤ 281474976710656
   ·
    rw [if_pos c7] at H
    have c7b0 := eq_true c7
    have c7b1 : decide (((l0.length : Int) : Int).toNat ≤ 281474976710656) = true := decide_eq_true c7
    clear c7
    obtain ⟨y212, hy212⟩ : ∃ y_ : List Bool, y_ = (List.replicate ((l0.length : Int) : Int).toNat false) := ⟨_, rfl⟩
    replace H : (casementref16_Order.l0 k l0 t206 t209 y212 ([] : List Int) 0) = some (r1, r2) := by first | (rw [hy212]; with_reducible exact H) | (have H2_ := (Option.bind_some _ _).symm.trans H; rw [hy212]; with_reducible exact H2_) | (have H2_ := (Option.bind_some _ _).symm.trans H; with_reducible exact H2_) | with_reducible exact H | (rw [hy212]; exact H) | exact H
    have Ny212 := Aside0.mk hy212
    clear hy212
    have H' := Aside0.mk H
    clear H
    go_enter Try.func18, Try.ntmps18
    go_wp2_with (first | ((with_reducible refine gate_callee (f := 10) rfl ?_); refine goesL_ (some 13) rfl rfl Try.func10 (by kernel_rfl) rfl #[.slice A0 l0.length c0] rfl (by (try simp only [List.map_toArray, List.map_cons, List.map_nil]); first | done | rfl | (simp only [List.length_drop, List.length_take]; rfl)) ?_; (with_reducible refine (casementref16_Check.calls k _ _ l0 t204 _ ?side1 ?side2 A2.out).mono ?_); (case side1 => repeat (first | exact HR0.out | (with_reducible refine Kd.C_alloc ?_ _) | (with_reducible refine Kd.C_drewN ?_ _) | (with_reducible refine Kd.C_drew ?_))); (case side2 => exact HC0.out); rintro e w' ⟨rfl, ⟨nd, rfl⟩⟩; refine ⟨_, rfl, ?_⟩) | ((with_reducible refine gate_callee (f := 13) rfl ?_); refine goesL_ (some 18) rfl rfl Try.func13 (by kernel_rfl) rfl #[.slice A0 l0.length c0] rfl (by (try simp only [List.map_toArray, List.map_cons, List.map_nil]); first | done | rfl | (simp only [List.length_drop, List.length_take]; rfl)) ?_; (with_reducible refine (casementref16_Owners.calls k _ _ l0 t206 _ ?side1 ?side2 A4.out).mono ?_); (case side1 => repeat (first | exact HR0.out | (with_reducible refine Kd.C_alloc ?_ _) | (with_reducible refine Kd.C_drewN ?_ _) | (with_reducible refine Kd.C_drew ?_))); (case side2 => exact HC0.out); rintro e w8 ⟨v207, rfl, ho0, hb⟩; refine ⟨_, rfl, ?_⟩; have n0_ := Aside0.mk (Kd.R_lower ho0 (below_size (by repeat (first | (with_reducible first | exact HB.out | apply below_alloc | apply pw_below_drewN | apply below_drew1) | exact HB.out)))); have n1_ := Aside0.mk (below_step (by repeat (first | (with_reducible first | exact HB.out | apply below_alloc | apply pw_below_drewN | apply below_drew1) | exact HB.out)) hb); clear HB; have HO208 := n0_; have HB := n1_; clear n0_ n1_; (try clear hb); (try clear hb2); (try clear hk); (try clear hi); (try clear ho0)) | ((with_reducible refine gate_callee (f := 15) rfl ?_); refine goesL_ (some 20) rfl rfl Try.func15 (by kernel_rfl) rfl #[.slice A0 l0.length c0] rfl (by (try simp only [List.map_toArray, List.map_cons, List.map_nil]); first | done | rfl | (simp only [List.length_drop, List.length_take]; rfl)) ?_; (with_reducible refine (casementref16_Bands.calls k _ _ l0 t209 _ ?side1 ?side2 A5.out).mono ?_); (case side1 => repeat (first | exact (Kd.C_below HR0.out HB.out) | (with_reducible refine Kd.C_alloc ?_ _) | (with_reducible refine Kd.C_drewN ?_ _) | (with_reducible refine Kd.C_drew ?_))); (case side2 => exact HC0.out); rintro e w9 ⟨v210, rfl, ho0, hb⟩; refine ⟨_, rfl, ?_⟩; have n0_ := Aside0.mk (Kd.R_elder' (by (with_reducible repeat (first | apply Kd.R_alloc | apply Kd.R_drewN | apply Kd.R_drew)); exact HO208.out) (Kd.R_base ho0) hb); have n1_ := Aside0.mk (Kd.R_lower (Kd.R_new' ho0 (Kd.R_lt (by (with_reducible repeat (first | apply Kd.R_alloc | apply Kd.R_drewN | apply Kd.R_drew)); exact HO208.out))) (below_size (by repeat (first | (with_reducible first | exact HB.out | apply below_alloc | apply pw_below_drewN | apply below_drew1) | exact HB.out)))); have n2_ := Aside0.mk (below_step (by repeat (first | (with_reducible first | exact HB.out | apply below_alloc | apply pw_below_drewN | apply below_drew1) | exact HB.out)) hb); clear HO208; clear HB; have HO208 := n0_; have HO211 := n1_; have HB := n2_; clear n0_ n1_ n2_; (try clear hb); (try clear hb2); (try clear hk); (try clear hi); (try clear ho0)) | ((with_reducible refine gate_dst (N := 23) rfl ?_); refine Kd.R_make Kd.bool _ 4 rfl (N := 23) rfl 54 _ _ rfl (l0.length : Int) rfl rfl Try.underlying54 (.bool false) 1 info4 rfl (by decide) (by omega) false (ok := fun _ => True) (okp := fun _ => True) rfl (fun _ hk => hk) trivial (of_decide_eq_true (by assumption)) (Nat.le_trans (Nat.mul_le_mul_right _ (of_decide_eq_true (by assumption) : (l0.length : Int).toNat ≤ 281474976710656)) (by omega)) (Below.refl _ _) (Nat.le_refl _) ?_; intro v213 w10 ho11 hb hg_ hnew_; clear hg_ hnew_; (first | rw [← Ny212.out] at ho11 | (simp only [Int.reduceToNat] at ho11; rw [← Ny212.out] at ho11)); have n0_ := Aside0.mk (Kd.R_below (by (with_reducible repeat (first | apply Kd.R_alloc | apply Kd.R_drewN | apply Kd.R_drew)); exact HO208.out) hb); have n1_ := Aside0.mk (Kd.R_below (by (with_reducible repeat (first | apply Kd.R_alloc | apply Kd.R_drewN | apply Kd.R_drew)); exact HO211.out) hb); have n2_ := Aside0.mk (Kd.R_lower ho11 (below_size (by repeat (first | (with_reducible first | exact HB.out | apply below_alloc | apply pw_below_drewN | apply below_drew1) | exact HB.out)))); have n3_ := Aside0.mk (below_step (by repeat (first | (with_reducible first | exact HB.out | apply below_alloc | apply pw_below_drewN | apply below_drew1) | exact HB.out)) hb); clear HO208; clear HO211; clear HB; have HO208 := n0_; have HO211 := n1_; have HO214 := n2_; have HB := n3_; clear n0_ n1_ n2_ n3_; clear hb ho11))
    go_loopg [7, 8] k (fun kq v7 v8 w' => ∃ (x6_1 : List Bool) (x7_1 : List Int) (x8_1 : Int), v8 = .int .i64 x8_1 ∧ Aside0 (casementref16_Order.l0 kq l0 t206 t209 x6_1 x7_1 x8_1 = some (r1, r2)) ∧ Aside0 (kq ≤ k) ∧ Aside0 (Kd.R (Kd.int .i64) 3 w' w.heap.size (fun k_ => some k_ ≠ (v210 : Value).ownBlock ∧ some k_ ≠ (v7 : Value).ownBlock) v207 t206) ∧ Aside0 (Kd.R (Kd.int .i64) 3 w' w.heap.size (fun k_ => some k_ ≠ (v207 : Value).ownBlock ∧ some k_ ≠ (v7 : Value).ownBlock) v210 t209) ∧ Aside0 (Kd.R Kd.bool 4 w' w.heap.size (fun _ => True) v213 x6_1) ∧ Aside0 (Kd.R (Kd.int .i64) 3 w' w.heap.size (fun k_ => some k_ ≠ (v207 : Value).ownBlock ∧ some k_ ≠ (v210 : Value).ownBlock) v7 x7_1) ∧ Aside0 (Below w.heap.size w w'))
    case atStart => exact ⟨(y212), (([] : List Int)), (0), (by first | rfl | (simp; done) | (simp [*]; done)), H', ⟨Nat.le_refl _⟩, ⟨by (with_reducible repeat (first | apply Kd.R_alloc | apply Kd.R_drewN | apply Kd.R_drew)); exact Kd.R_mono HO208.out (fun _ hk => ⟨hk.2, (by simp [Value.ownBlock])⟩)⟩, ⟨by (with_reducible repeat (first | apply Kd.R_alloc | apply Kd.R_drewN | apply Kd.R_drew)); exact Kd.R_mono HO211.out (fun _ hk => ⟨hk.2, (by simp [Value.ownBlock])⟩)⟩, ⟨by (with_reducible repeat (first | apply Kd.R_alloc | apply Kd.R_drewN | apply Kd.R_drew)); exact HO214.out⟩, ⟨by first | exact Kd.R_nil _ _ _ _ _ | exact Kd.N_nil _ _ _ _ _ | exact Kd.V_nil _ _ _ _ _ | exact Kd.Q_nil _ _ _ _ _ | exact Kd.S_nil _ _ _ _ _⟩, ⟨by repeat (first | (with_reducible first | exact HB.out | apply below_alloc | apply pw_below_drewN | apply below_drew1) | exact HB.out)⟩⟩
    case round =>
     clear H'
     try clear c1
     try clear p2
     try clear c3
     try clear c3b0
     try clear c3b1
     try clear c6
     try clear c6b0
     try clear c6b1
     try clear c7
     try clear c7b0
     try clear c7b1
     try clear c10
     obtain ⟨x6_1, x7_1, x8_1, rfl, HA, HK1, HO_4, HO_5, HO_6, HO_7, HB⟩ := hrel
     cases gk with
     | zero => exact absurd HA.out (by simp [casementref16_Order.l0])
     | succ k1 =>
      have H := HA.out
      clear HA
      simp only [casementref16_Order.l0] at H
      by_cases c12 : x8_1 < (l0.length : Int)
      ·
       rw [if_pos c12] at H
       have c12b0 : decide (x8_1 < (l0.length : Int)) = true := decide_eq_true c12
       clear c12
       have H' := Aside0.mk H
       clear H
       go_wp2
       go_loopg [9, 10] k1 (fun kq v9 v10 w' => ∃ (x9_2 : Int) (x10_2 : Int), v9 = .int .i64 x9_2 ∧ v10 = .int .i64 x10_2 ∧ Aside0 (casementref16_Order.l1 kq l0 t206 t209 x6_1 x7_1 x8_1 x9_2 x10_2 = some (r1, r2)) ∧ Aside0 (kq ≤ k1) ∧ Aside0 (Kd.R (Kd.int .i64) 3 w' w.heap.size (fun k_ => some k_ ≠ (v210 : Value).ownBlock ∧ some k_ ≠ (u7 : Value).ownBlock) v207 t206) ∧ Aside0 (Kd.R (Kd.int .i64) 3 w' w.heap.size (fun k_ => some k_ ≠ (v207 : Value).ownBlock ∧ some k_ ≠ (u7 : Value).ownBlock) v210 t209) ∧ Aside0 (Kd.R Kd.bool 4 w' w.heap.size (fun _ => True) v213 x6_1) ∧ Aside0 (Kd.R (Kd.int .i64) 3 w' w.heap.size (fun k_ => some k_ ≠ (v207 : Value).ownBlock ∧ some k_ ≠ (v210 : Value).ownBlock) u7 x7_1) ∧ Aside0 (Below w.heap.size w w'))
       case atStart => exact ⟨((-1)), (0), (by first | rfl | (simp; done) | (simp [*]; done)), (by first | rfl | (simp; done) | (simp [*]; done)), H', ⟨Nat.le_refl _⟩, ⟨by (with_reducible repeat (first | apply Kd.R_alloc | apply Kd.R_drewN | apply Kd.R_drew)); exact HO_4.out⟩, ⟨by (with_reducible repeat (first | apply Kd.R_alloc | apply Kd.R_drewN | apply Kd.R_drew)); exact HO_5.out⟩, ⟨by (with_reducible repeat (first | apply Kd.R_alloc | apply Kd.R_drewN | apply Kd.R_drew)); exact HO_6.out⟩, ⟨by (with_reducible repeat (first | apply Kd.R_alloc | apply Kd.R_drewN | apply Kd.R_drew)); exact HO_7.out⟩, ⟨by repeat (first | (with_reducible first | exact HB.out | apply below_alloc | apply pw_below_drewN | apply below_drew1) | exact HB.out)⟩⟩
       case round =>
        clear H'
        try clear c1
        try clear p2
        try clear c3
        try clear c3b0
        try clear c3b1
        try clear c6
        try clear c6b0
        try clear c6b1
        try clear c7
        try clear c7b0
        try clear c7b1
        try clear c10
        try clear c12
        try clear c12b0
        try clear p2
        obtain ⟨x9_2, x10_2, rfl, rfl, HA, HK2, HO_4, HO_5, HO_6, HO_7, HB⟩ := hrel
        cases gk with
        | zero => exact absurd HA.out (by simp [casementref16_Order.l1])
        | succ k2 =>
         have H := HA.out
         clear HA
         simp only [casementref16_Order.l1] at H
         by_cases c13 : x10_2 < (l0.length : Int)
         ·
          rw [if_pos c13] at H
          have c13b0 : decide (x10_2 < (l0.length : Int)) = true := decide_eq_true c13
          clear c13
          by_cases c14 : 0 ≤ x10_2
          ·
           rw [if_pos c14] at H
           have c14b0 : decide (0 ≤ x10_2) = true := decide_eq_true c14
           clear c14
           by_cases c15 : x10_2 < (t206.length : Int)
           ·
            rw [if_pos c15] at H
            have c15b0 : decide (x10_2 < (t206.length : Int)) = true := decide_eq_true c15
            clear c15
            by_cases c16 : (rd t206 x10_2) = 0
            ·
             rw [if_pos c16] at H
             have c16b0 : ((rd t206 x10_2) == 0) = true := beq_iff_eq.mpr c16
             have c16b1 : ((rd t206 x10_2) != 0) = false := bne_eq_false_iff_eq.mpr c16
             clear c16
             by_cases c17 : x10_2 < (x6_1.length : Int)
             ·
              rw [if_pos c17] at H
              have c17b0 : decide (x10_2 < (x6_1.length : Int)) = true := decide_eq_true c17
              clear c17
              obtain ⟨bq18, hbq18⟩ : ∃ b_ : Bool, b_ = (rdOf false x6_1 x10_2) := ⟨_, rfl⟩
              replace H : (if bq18 = true then (casementref16_Order.l1 k2 l0 t206 t209 x6_1 x7_1 x8_1 x9_2 (wrap64 (x10_2 + 1))) else (if x9_2 < 0 then (casementref16_Order.l1 k2 l0 t206 t209 x6_1 x7_1 x8_1 x10_2 (wrap64 (x10_2 + 1))) else (if 0 ≤ x9_2 then (if x9_2 < (l0.length : Int) then (if x10_2 < (t209.length : Int) then (if x9_2 < (t209.length : Int) then ((casementref16_lower.f ((rd_T38 l0 x10_2).f0) ((rd_T38 l0 x10_2).f1) ((rd_T38 l0 x10_2).f2) ((rd_T38 l0 x10_2).f3) ((rd_T38 l0 x10_2).f4) ((rd_T38 l0 x10_2).f5) ((rd_T38 l0 x9_2).f0) ((rd_T38 l0 x9_2).f1) ((rd_T38 l0 x9_2).f2) ((rd_T38 l0 x9_2).f3) ((rd_T38 l0 x9_2).f4) ((rd_T38 l0 x9_2).f5) (rd t209 x10_2) (rd t209 x9_2)).bind fun t226 => (if t226 = true then (casementref16_Order.l1 k2 l0 t206 t209 x6_1 x7_1 x8_1 x10_2 (wrap64 (x10_2 + 1))) else (casementref16_Order.l1 k2 l0 t206 t209 x6_1 x7_1 x8_1 x9_2 (wrap64 (x10_2 + 1))))) else (none)) else (none)) else (none)) else (none)))) = some (r1, r2) := by rw [← hbq18] at H; exact H
              have Nbq18 := Aside0.mk hbq18
              clear hbq18
              by_cases c19 : bq18 = true
              ·
               subst c19
               have H1 : (casementref16_Order.l1 k2 l0 t206 t209 x6_1 x7_1 x8_1 x9_2 (wrap64 (x10_2 + 1))) = some (r1, r2) := by rw [if_pos rfl] at H; exact H
               clear H
               have H := H1
               clear H1
               have H' := Aside0.mk H
               clear H
               obtain ⟨Ao20, co20, eo20⟩ := Kd.R_slice HO_4.out
               subst eo20
               have p220 : 0 ≤ (x10_2 : Int) := of_decide_eq_true (by assumption)
               have q220 : x10_2 < (t206.length : Int) := of_decide_eq_true (by assumption)
               obtain ⟨ad220, e220, hx220_0⟩ := Kd.at_int (Kd.R_reads' HO_4.out).2.2 x10_2 p220 q220
               cases e220
               replace p220 := eq_true p220
               replace q220 := eq_true q220
               try go_wp2
               have n0_ := Aside0.mk (Kd.R_drew HO_4.out)
               have n1_ := Aside0.mk (Kd.R_drew HO_5.out)
               have n2_ := Aside0.mk (Kd.R_drew HO_6.out)
               have n3_ := Aside0.mk (Kd.R_drew HO_7.out)
               have n4_ := Aside0.mk (below_drew1 HB.out)
               clear HO_4
               clear HO_5
               clear HO_6
               clear HO_7
               clear HB
               have HO_4 := n0_
               have HO_5 := n1_
               have HO_6 := n2_
               have HO_7 := n3_
               have HB := n4_
               clear n0_ n1_ n2_ n3_ n4_
               obtain ⟨Ao22, co22, eo22⟩ := Kd.R_slice HO_6.out
               (first | subst eo22 | (injection eo22 with f1_ f2_ f3_; have f4_ := f1_.symm; have f5_ := f3_.symm; clear f1_ f2_ f3_; subst f4_; subst f5_))
               have p221 : 0 ≤ (x10_2 : Int) := of_decide_eq_true (by assumption)
               have q221 : x10_2 < (x6_1.length : Int) := of_decide_eq_true (by assumption)
               obtain ⟨ad221, e221, hx221_0⟩ := Kd.at_bool (Kd.R_reads' HO_6.out).2.2 x10_2 p221 q221
               (try rw [← Nbq18.out] at hx221_0)
               cases e221
               replace p221 := eq_true p221
               replace q221 := eq_true q221
               refine start_ (n := 31) (S := fun w' => w'.cell? (ad221.add (x10_2).toNat) = some (.bool true)) (ds := []) #[oF, oF, oF, oF, oF, oF, oF, oF, oF, oF, oF, oF, oF, oF, oF, oF, oF, oF, oF, oF, oF, oF, oF, oF, oF, oF, oF, oF, oF, oF, oF] (by kernel_rfl) rfl rfl (hx221_0) (fun hHeld => ?_); refine with_tabW casementref16_Order.tab14 casementref16_Order.bits14 (fun HT_ HW_ => ?_)
               generalize wr.drew = w21 at HO_4 HO_5 HO_6 HO_7 HB hx221_0 hHeld ⊢
               refine pure_ (i := 0) (N := some 52) (v := ?_) (a' := ?_) #[oT, oF, oF, oF, oF, oF, oF, oF, oF, oF, oF, oF, oF, oF, oF, oF, oF, oF, oF, oF, oF, oF, oF, oF, oF, oF, oF, oF, oF, oF, oF] rfl rfl (any_of HT_.out (by kernel_rfl)) (fun _ _ _ h => h) (Or.inl ⟨by rfl, ?_⟩) ?_ ?_
               rotate_left
               ·
                intro w'
                go_simp
                with_reducible rfl
               rotate_left
               ·
                simp only [Act.put, sTA, sS0, sS1, i64_w, i32_w]
                rfl
               refine pure_ (i := 1) (N := some 53) (v := ?_) (a' := ?_) #[oT, oT, oF, oF, oF, oF, oF, oF, oF, oF, oF, oF, oF, oF, oF, oF, oF, oF, oF, oF, oF, oF, oF, oF, oF, oF, oF, oF, oF, oF, oF] rfl rfl (any_of HT_.out (by kernel_rfl)) (fun _ _ _ h => h) (Or.inl ⟨by rfl, ?_⟩) ?_ ?_
               rotate_left
               ·
                intro w'
                go_simp
                with_reducible rfl
               rotate_left
               ·
                simp only [Act.put, sTA, sS0, sS1, i64_w, i32_w]
                rfl
               refine pure_ (i := 2) (N := some 54) (v := ?_) (a' := ?_) #[oT, oT, oT, oF, oF, oF, oF, oF, oF, oF, oF, oF, oF, oF, oF, oF, oF, oF, oF, oF, oF, oF, oF, oF, oF, oF, oF, oF, oF, oF, oF] rfl rfl (any_of HT_.out (by kernel_rfl)) (fun _ _ _ h => h) (Or.inl ⟨by rfl, ?_⟩) ?_ ?_
               rotate_left
               ·
                intro w'
                go_simp
                with_reducible rfl
               rotate_left
               ·
                simp only [Act.put, sTA, sS0, sS1, i64_w, i32_w]
                rfl
               refine take_ (i := 3) (N := some 55) (v := ?_) (a' := ?_) #[oT, oT, oT, oT, oF, oF, oF, oF, oF, oF, oF, oF, oF, oF, oF, oF, oF, oF, oF, oF, oF, oF, oF, oF, oF, oF, oF, oF, oF, oF, oF] rfl rfl (take_ofW HT_.out HW_.out (by kernel_rfl)) (fun _ _ _ h => h) (Or.inl ⟨by rfl, ?_⟩) hHeld ?_ ?_
               rotate_left
               ·
                intro w' s0
                go_simp
                with_reducible rfl
               rotate_left
               ·
                simp only [Act.put, sTA, sS0, sS1, i64_w, i32_w]
                rfl
               refine pure_ (i := 4) (N := some 56) (v := ?_) (a' := ?_) #[oT, oT, oT, oT, oT, oF, oF, oF, oF, oF, oF, oF, oF, oF, oF, oF, oF, oF, oF, oF, oF, oF, oF, oF, oF, oF, oF, oF, oF, oF, oF] rfl rfl (any_of HT_.out (by kernel_rfl)) (fun _ _ _ h => h) (Or.inl ⟨by rfl, ?_⟩) ?_ ?_
               rotate_left
               ·
                intro w'
                go_simp
                with_reducible rfl
               rotate_left
               ·
                simp only [Act.put, sTA, sS0, sS1, i64_w, i32_w]
                rfl
               refine pure_ (i := 5) (N := some 57) (v := ?_) (a' := ?_) #[oT, oT, oT, oT, oT, oT, oF, oF, oF, oF, oF, oF, oF, oF, oF, oF, oF, oF, oF, oF, oF, oF, oF, oF, oF, oF, oF, oF, oF, oF, oF] rfl rfl (any_of HT_.out (by kernel_rfl)) (fun _ _ _ h => h) (Or.inl ⟨by rfl, ?_⟩) ?_ ?_
               rotate_left
               ·
                intro w'
                go_simp
                with_reducible rfl
               rotate_left
               ·
                simp only [Act.put, sTA, sS0, sS1, i64_w, i32_w]
                rfl
               refine pure_ (i := 6) (N := some 58) (v := undef) (a' := ?_) #[oT, oT, oT, oT, oT, oT, oT, oF, oF, oF, oF, oF, oF, oF, oF, oF, oF, oF, oF, oF, oF, oF, oF, oF, oF, oF, oF, oF, oF, oF, oF] rfl rfl (any_of HT_.out (by kernel_rfl)) (fun _ _ _ h => h) (Or.inr ⟨by rfl, rfl⟩) ?_ ?_
               rotate_left
               ·
                simp only [Act.put, sTA, sS0, sS1, i64_w, i32_w]
                rfl
               refine pure_ (i := 7) (N := some 59) (v := ?_) (a' := ?_) #[oT, oT, oT, oT, oT, oT, oT, oT, oF, oF, oF, oF, oF, oF, oF, oF, oF, oF, oF, oF, oF, oF, oF, oF, oF, oF, oF, oF, oF, oF, oF] rfl rfl (any_of HT_.out (by kernel_rfl)) (fun _ _ _ h => h) (Or.inl ⟨by rfl, ?_⟩) ?_ ?_
               rotate_left
               ·
                intro w'
                go_simp
                with_reducible rfl
               rotate_left
               ·
                simp only [Act.put, sTA, sS0, sS1, i64_w, i32_w]
                rfl
               refine pure_ (i := 8) (N := some 60) (v := ?_) (a' := ?_) #[oT, oT, oT, oT, oT, oT, oT, oT, oT, oF, oF, oF, oF, oF, oF, oF, oF, oF, oF, oF, oF, oF, oF, oF, oF, oF, oF, oF, oF, oF, oF] rfl rfl (any_of HT_.out (by kernel_rfl)) (fun _ _ _ h => h) (Or.inl ⟨by rfl, ?_⟩) ?_ ?_
               rotate_left
               ·
                intro w'
                go_simp
                with_reducible rfl
               rotate_left
               ·
                simp only [Act.put, sTA, sS0, sS1, i64_w, i32_w]
                rfl
               refine pure_ (i := 9) (N := some 61) (v := undef) (a' := ?_) #[oT, oT, oT, oT, oT, oT, oT, oT, oT, oT, oF, oF, oF, oF, oF, oF, oF, oF, oF, oF, oF, oF, oF, oF, oF, oF, oF, oF, oF, oF, oF] rfl rfl (any_of HT_.out (by kernel_rfl)) (fun _ _ _ h => h) (Or.inr ⟨by rfl, rfl⟩) ?_ ?_
               rotate_left
               ·
                simp only [Act.put, sTA, sS0, sS1, i64_w, i32_w]
                rfl
               refine pure_ (i := 10) (N := some 62) (v := undef) (a' := ?_) #[oT, oT, oT, oT, oT, oT, oT, oT, oT, oT, oT, oF, oF, oF, oF, oF, oF, oF, oF, oF, oF, oF, oF, oF, oF, oF, oF, oF, oF, oF, oF] rfl rfl (any_of HT_.out (by kernel_rfl)) (fun _ _ _ h => h) (Or.inr ⟨by rfl, rfl⟩) ?_ ?_
               rotate_left
               ·
                simp only [Act.put, sTA, sS0, sS1, i64_w, i32_w]
                rfl
               refine pure_ (i := 11) (N := some 63) (v := undef) (a' := ?_) #[oT, oT, oT, oT, oT, oT, oT, oT, oT, oT, oT, oT, oF, oF, oF, oF, oF, oF, oF, oF, oF, oF, oF, oF, oF, oF, oF, oF, oF, oF, oF] rfl rfl (any_of HT_.out (by kernel_rfl)) (fun _ _ _ h => h) (Or.inr ⟨by rfl, rfl⟩) ?_ ?_
               rotate_left
               ·
                simp only [Act.put, sTA, sS0, sS1, i64_w, i32_w]
                rfl
               refine pure_ (i := 12) (N := some 64) (v := undef) (a' := ?_) #[oT, oT, oT, oT, oT, oT, oT, oT, oT, oT, oT, oT, oT, oF, oF, oF, oF, oF, oF, oF, oF, oF, oF, oF, oF, oF, oF, oF, oF, oF, oF] rfl rfl (any_of HT_.out (by kernel_rfl)) (fun _ _ _ h => h) (Or.inr ⟨by rfl, rfl⟩) ?_ ?_
               rotate_left
               ·
                simp only [Act.put, sTA, sS0, sS1, i64_w, i32_w]
                rfl
               refine pure_ (i := 13) (N := some 65) (v := undef) (a' := ?_) #[oT, oT, oT, oT, oT, oT, oT, oT, oT, oT, oT, oT, oT, oT, oF, oF, oF, oF, oF, oF, oF, oF, oF, oF, oF, oF, oF, oF, oF, oF, oF] rfl rfl (any_of HT_.out (by kernel_rfl)) (fun _ _ _ h => h) (Or.inr ⟨by rfl, rfl⟩) ?_ ?_
               rotate_left
               ·
                simp only [Act.put, sTA, sS0, sS1, i64_w, i32_w]
                rfl
               refine pure_ (i := 14) (N := some 66) (v := undef) (a' := ?_) #[oT, oT, oT, oT, oT, oT, oT, oT, oT, oT, oT, oT, oT, oT, oT, oF, oF, oF, oF, oF, oF, oF, oF, oF, oF, oF, oF, oF, oF, oF, oF] rfl rfl (any_of HT_.out (by kernel_rfl)) (fun _ _ _ h => h) (Or.inr ⟨by rfl, rfl⟩) ?_ ?_
               rotate_left
               ·
                simp only [Act.put, sTA, sS0, sS1, i64_w, i32_w]
                rfl
               refine pure_ (i := 15) (N := some 67) (v := undef) (a' := ?_) #[oT, oT, oT, oT, oT, oT, oT, oT, oT, oT, oT, oT, oT, oT, oT, oT, oF, oF, oF, oF, oF, oF, oF, oF, oF, oF, oF, oF, oF, oF, oF] rfl rfl (any_of HT_.out (by kernel_rfl)) (fun _ _ _ h => h) (Or.inr ⟨by rfl, rfl⟩) ?_ ?_
               rotate_left
               ·
                simp only [Act.put, sTA, sS0, sS1, i64_w, i32_w]
                rfl
               refine pure_ (i := 16) (N := some 68) (v := undef) (a' := ?_) #[oT, oT, oT, oT, oT, oT, oT, oT, oT, oT, oT, oT, oT, oT, oT, oT, oT, oF, oF, oF, oF, oF, oF, oF, oF, oF, oF, oF, oF, oF, oF] rfl rfl (any_of HT_.out (by kernel_rfl)) (fun _ _ _ h => h) (Or.inr ⟨by rfl, rfl⟩) ?_ ?_
               rotate_left
               ·
                simp only [Act.put, sTA, sS0, sS1, i64_w, i32_w]
                rfl
               refine pure_ (i := 17) (N := some 69) (v := undef) (a' := ?_) #[oT, oT, oT, oT, oT, oT, oT, oT, oT, oT, oT, oT, oT, oT, oT, oT, oT, oT, oF, oF, oF, oF, oF, oF, oF, oF, oF, oF, oF, oF, oF] rfl rfl (any_of HT_.out (by kernel_rfl)) (fun _ _ _ h => h) (Or.inr ⟨by rfl, rfl⟩) ?_ ?_
               rotate_left
               ·
                simp only [Act.put, sTA, sS0, sS1, i64_w, i32_w]
                rfl
               refine pure_ (i := 18) (N := some 70) (v := undef) (a' := ?_) #[oT, oT, oT, oT, oT, oT, oT, oT, oT, oT, oT, oT, oT, oT, oT, oT, oT, oT, oT, oF, oF, oF, oF, oF, oF, oF, oF, oF, oF, oF, oF] rfl rfl (any_of HT_.out (by kernel_rfl)) (fun _ _ _ h => h) (Or.inr ⟨by rfl, rfl⟩) ?_ ?_
               rotate_left
               ·
                simp only [Act.put, sTA, sS0, sS1, i64_w, i32_w]
                rfl
               refine pure_ (i := 19) (N := some 71) (v := undef) (a' := ?_) #[oT, oT, oT, oT, oT, oT, oT, oT, oT, oT, oT, oT, oT, oT, oT, oT, oT, oT, oT, oT, oF, oF, oF, oF, oF, oF, oF, oF, oF, oF, oF] rfl rfl (any_of HT_.out (by kernel_rfl)) (fun _ _ _ h => h) (Or.inr ⟨by rfl, rfl⟩) ?_ ?_
               rotate_left
               ·
                simp only [Act.put, sTA, sS0, sS1, i64_w, i32_w]
                rfl
               refine pure_ (i := 20) (N := some 72) (v := undef) (a' := ?_) #[oT, oT, oT, oT, oT, oT, oT, oT, oT, oT, oT, oT, oT, oT, oT, oT, oT, oT, oT, oT, oT, oF, oF, oF, oF, oF, oF, oF, oF, oF, oF] rfl rfl (any_of HT_.out (by kernel_rfl)) (fun _ _ _ h => h) (Or.inr ⟨by rfl, rfl⟩) ?_ ?_
               rotate_left
               ·
                simp only [Act.put, sTA, sS0, sS1, i64_w, i32_w]
                rfl
               refine pure_ (i := 21) (N := some 73) (v := undef) (a' := ?_) #[oT, oT, oT, oT, oT, oT, oT, oT, oT, oT, oT, oT, oT, oT, oT, oT, oT, oT, oT, oT, oT, oT, oF, oF, oF, oF, oF, oF, oF, oF, oF] rfl rfl (any_of HT_.out (by kernel_rfl)) (fun _ _ _ h => h) (Or.inr ⟨by rfl, rfl⟩) ?_ ?_
               rotate_left
               ·
                simp only [Act.put, sTA, sS0, sS1, i64_w, i32_w]
                rfl
               refine pure_ (i := 22) (N := some 74) (v := undef) (a' := ?_) #[oT, oT, oT, oT, oT, oT, oT, oT, oT, oT, oT, oT, oT, oT, oT, oT, oT, oT, oT, oT, oT, oT, oT, oF, oF, oF, oF, oF, oF, oF, oF] rfl rfl (any_of HT_.out (by kernel_rfl)) (fun _ _ _ h => h) (Or.inr ⟨by rfl, rfl⟩) ?_ ?_
               rotate_left
               ·
                simp only [Act.put, sTA, sS0, sS1, i64_w, i32_w]
                rfl
               refine pure_ (i := 23) (N := some 75) (v := undef) (a' := ?_) #[oT, oT, oT, oT, oT, oT, oT, oT, oT, oT, oT, oT, oT, oT, oT, oT, oT, oT, oT, oT, oT, oT, oT, oT, oF, oF, oF, oF, oF, oF, oF] rfl rfl (any_of HT_.out (by kernel_rfl)) (fun _ _ _ h => h) (Or.inr ⟨by rfl, rfl⟩) ?_ ?_
               rotate_left
               ·
                simp only [Act.put, sTA, sS0, sS1, i64_w, i32_w]
                rfl
               refine pure_ (i := 24) (N := some 76) (v := undef) (a' := ?_) #[oT, oT, oT, oT, oT, oT, oT, oT, oT, oT, oT, oT, oT, oT, oT, oT, oT, oT, oT, oT, oT, oT, oT, oT, oT, oF, oF, oF, oF, oF, oF] rfl rfl (any_of HT_.out (by kernel_rfl)) (fun _ _ _ h => h) (Or.inr ⟨by rfl, rfl⟩) ?_ ?_
               rotate_left
               ·
                simp only [Act.put, sTA, sS0, sS1, i64_w, i32_w]
                rfl
               refine pure_ (i := 25) (N := some 77) (v := undef) (a' := ?_) #[oT, oT, oT, oT, oT, oT, oT, oT, oT, oT, oT, oT, oT, oT, oT, oT, oT, oT, oT, oT, oT, oT, oT, oT, oT, oT, oF, oF, oF, oF, oF] rfl rfl (any_of HT_.out (by kernel_rfl)) (fun _ _ _ h => h) (Or.inr ⟨by rfl, rfl⟩) ?_ ?_
               rotate_left
               ·
                simp only [Act.put, sTA, sS0, sS1, i64_w, i32_w]
                rfl
               refine pure_ (i := 26) (N := some 78) (v := undef) (a' := ?_) #[oT, oT, oT, oT, oT, oT, oT, oT, oT, oT, oT, oT, oT, oT, oT, oT, oT, oT, oT, oT, oT, oT, oT, oT, oT, oT, oT, oF, oF, oF, oF] rfl rfl (any_of HT_.out (by kernel_rfl)) (fun _ _ _ h => h) (Or.inr ⟨by rfl, rfl⟩) ?_ ?_
               rotate_left
               ·
                simp only [Act.put, sTA, sS0, sS1, i64_w, i32_w]
                rfl
               refine pure_ (i := 27) (N := some 79) (v := undef) (a' := ?_) #[oT, oT, oT, oT, oT, oT, oT, oT, oT, oT, oT, oT, oT, oT, oT, oT, oT, oT, oT, oT, oT, oT, oT, oT, oT, oT, oT, oT, oF, oF, oF] rfl rfl (any_of HT_.out (by kernel_rfl)) (fun _ _ _ h => h) (Or.inr ⟨by rfl, rfl⟩) ?_ ?_
               rotate_left
               ·
                simp only [Act.put, sTA, sS0, sS1, i64_w, i32_w]
                rfl
               refine pure_ (i := 28) (N := some 80) (v := undef) (a' := ?_) #[oT, oT, oT, oT, oT, oT, oT, oT, oT, oT, oT, oT, oT, oT, oT, oT, oT, oT, oT, oT, oT, oT, oT, oT, oT, oT, oT, oT, oT, oF, oF] rfl rfl (any_of HT_.out (by kernel_rfl)) (fun _ _ _ h => h) (Or.inr ⟨by rfl, rfl⟩) ?_ ?_
               rotate_left
               ·
                simp only [Act.put, sTA, sS0, sS1, i64_w, i32_w]
                rfl
               refine pure_ (i := 29) (N := some 81) (v := undef) (a' := ?_) #[oT, oT, oT, oT, oT, oT, oT, oT, oT, oT, oT, oT, oT, oT, oT, oT, oT, oT, oT, oT, oT, oT, oT, oT, oT, oT, oT, oT, oT, oT, oF] rfl rfl (any_of HT_.out (by kernel_rfl)) (fun _ _ _ h => h) (Or.inr ⟨by rfl, rfl⟩) ?_ ?_
               rotate_left
               ·
                simp only [Act.put, sTA, sS0, sS1, i64_w, i32_w]
                rfl
               refine pure_ (i := 30) (N := some 82) (v := ?_) (a' := ?_) #[oT, oT, oT, oT, oT, oT, oT, oT, oT, oT, oT, oT, oT, oT, oT, oT, oT, oT, oT, oT, oT, oT, oT, oT, oT, oT, oT, oT, oT, oT, oT] rfl rfl (any_of HT_.out (by kernel_rfl)) (fun _ _ _ h => h) (Or.inl ⟨by rfl, ?_⟩) ?_ ?_
               rotate_left
               ·
                intro w'
                go_simp
                with_reducible rfl
               rotate_left
               ·
                simp only [Act.put, sTA, sS0, sS1, i64_w, i32_w]
                rfl
               refine done_ (done_of HT_.out (by kernel_rfl)) ?_
               try go_wp2
               go_roundg k2
               case measure => have := HK1.out; have := HK2.out; omega
               case rel => exact ⟨(x9_2), (wrap64 (x10_2 + 1)), (by first | rfl | (simp; done) | (simp [*]; done)), (by first | rfl | (simp; done) | (simp [*]; done)), H', ⟨by have := HK1.out; have := HK2.out; omega⟩, ⟨by (with_reducible repeat (first | apply Kd.R_alloc | apply Kd.R_drewN | apply Kd.R_drew)); exact HO_4.out⟩, ⟨by (with_reducible repeat (first | apply Kd.R_alloc | apply Kd.R_drewN | apply Kd.R_drew)); exact HO_5.out⟩, ⟨by (with_reducible repeat (first | apply Kd.R_alloc | apply Kd.R_drewN | apply Kd.R_drew)); exact HO_6.out⟩, ⟨by (with_reducible repeat (first | apply Kd.R_alloc | apply Kd.R_drewN | apply Kd.R_drew)); exact HO_7.out⟩, ⟨by repeat (first | (with_reducible first | exact HB.out | apply below_alloc | apply pw_below_drewN | apply below_drew1) | exact HB.out)⟩⟩
              ·
               replace c19 := Bool.eq_false_iff.mpr c19
               subst c19
               have H1 : (if x9_2 < 0 then (casementref16_Order.l1 k2 l0 t206 t209 x6_1 x7_1 x8_1 x10_2 (wrap64 (x10_2 + 1))) else (if 0 ≤ x9_2 then (if x9_2 < (l0.length : Int) then (if x10_2 < (t209.length : Int) then (if x9_2 < (t209.length : Int) then ((casementref16_lower.f ((rd_T38 l0 x10_2).f0) ((rd_T38 l0 x10_2).f1) ((rd_T38 l0 x10_2).f2) ((rd_T38 l0 x10_2).f3) ((rd_T38 l0 x10_2).f4) ((rd_T38 l0 x10_2).f5) ((rd_T38 l0 x9_2).f0) ((rd_T38 l0 x9_2).f1) ((rd_T38 l0 x9_2).f2) ((rd_T38 l0 x9_2).f3) ((rd_T38 l0 x9_2).f4) ((rd_T38 l0 x9_2).f5) (rd t209 x10_2) (rd t209 x9_2)).bind fun t226 => (if t226 = true then (casementref16_Order.l1 k2 l0 t206 t209 x6_1 x7_1 x8_1 x10_2 (wrap64 (x10_2 + 1))) else (casementref16_Order.l1 k2 l0 t206 t209 x6_1 x7_1 x8_1 x9_2 (wrap64 (x10_2 + 1))))) else (none)) else (none)) else (none)) else (none))) = some (r1, r2) := by rw [if_neg (show ¬ (false = true) by decide)] at H; exact H
               clear H
               have H := H1
               clear H1
               by_cases c23 : x9_2 < 0
               ·
                rw [if_pos c23] at H
                have c23b0 : decide (x9_2 < 0) = true := decide_eq_true c23
                clear c23
                have H' := Aside0.mk H
                clear H
                obtain ⟨Ao24, co24, eo24⟩ := Kd.R_slice HO_4.out
                subst eo24
                have p220 : 0 ≤ (x10_2 : Int) := of_decide_eq_true (by assumption)
                have q220 : x10_2 < (t206.length : Int) := of_decide_eq_true (by assumption)
                obtain ⟨ad220, e220, hx220_0⟩ := Kd.at_int (Kd.R_reads' HO_4.out).2.2 x10_2 p220 q220
                cases e220
                replace p220 := eq_true p220
                replace q220 := eq_true q220
                try go_wp2
                have n0_ := Aside0.mk (Kd.R_drew HO_4.out)
                have n1_ := Aside0.mk (Kd.R_drew HO_5.out)
                have n2_ := Aside0.mk (Kd.R_drew HO_6.out)
                have n3_ := Aside0.mk (Kd.R_drew HO_7.out)
                have n4_ := Aside0.mk (below_drew1 HB.out)
                clear HO_4
                clear HO_5
                clear HO_6
                clear HO_7
                clear HB
                have HO_4 := n0_
                have HO_5 := n1_
                have HO_6 := n2_
                have HO_7 := n3_
                have HB := n4_
                clear n0_ n1_ n2_ n3_ n4_
                obtain ⟨Ao26, co26, eo26⟩ := Kd.R_slice HO_6.out
                (first | subst eo26 | (injection eo26 with f1_ f2_ f3_; have f4_ := f1_.symm; have f5_ := f3_.symm; clear f1_ f2_ f3_; subst f4_; subst f5_))
                have p221 : 0 ≤ (x10_2 : Int) := of_decide_eq_true (by assumption)
                have q221 : x10_2 < (x6_1.length : Int) := of_decide_eq_true (by assumption)
                obtain ⟨ad221, e221, hx221_0⟩ := Kd.at_bool (Kd.R_reads' HO_6.out).2.2 x10_2 p221 q221
                (try rw [← Nbq18.out] at hx221_0)
                cases e221
                replace p221 := eq_true p221
                replace q221 := eq_true q221
                refine start_ (n := 31) (S := fun w' => w'.cell? (ad221.add (x10_2).toNat) = some (.bool false)) (ds := []) #[oF, oF, oF, oF, oF, oF, oF, oF, oF, oF, oF, oF, oF, oF, oF, oF, oF, oF, oF, oF, oF, oF, oF, oF, oF, oF, oF, oF, oF, oF, oF] (by kernel_rfl) rfl rfl (hx221_0) (fun hHeld => ?_); refine with_tabW casementref16_Order.tab14 casementref16_Order.bits14 (fun HT_ HW_ => ?_)
                generalize wr.drew = w25 at HO_4 HO_5 HO_6 HO_7 HB hx221_0 hHeld ⊢
                refine pure_ (i := 0) (N := some 52) (v := ?_) (a' := ?_) #[oT, oF, oF, oF, oF, oF, oF, oF, oF, oF, oF, oF, oF, oF, oF, oF, oF, oF, oF, oF, oF, oF, oF, oF, oF, oF, oF, oF, oF, oF, oF] rfl rfl (any_of HT_.out (by kernel_rfl)) (fun _ _ _ h => h) (Or.inl ⟨by rfl, ?_⟩) ?_ ?_
                rotate_left
                ·
                 intro w'
                 go_simp
                 with_reducible rfl
                rotate_left
                ·
                 simp only [Act.put, sTA, sS0, sS1, i64_w, i32_w]
                 rfl
                refine pure_ (i := 1) (N := some 53) (v := ?_) (a' := ?_) #[oT, oT, oF, oF, oF, oF, oF, oF, oF, oF, oF, oF, oF, oF, oF, oF, oF, oF, oF, oF, oF, oF, oF, oF, oF, oF, oF, oF, oF, oF, oF] rfl rfl (any_of HT_.out (by kernel_rfl)) (fun _ _ _ h => h) (Or.inl ⟨by rfl, ?_⟩) ?_ ?_
                rotate_left
                ·
                 intro w'
                 go_simp
                 with_reducible rfl
                rotate_left
                ·
                 simp only [Act.put, sTA, sS0, sS1, i64_w, i32_w]
                 rfl
                refine pure_ (i := 2) (N := some 54) (v := ?_) (a' := ?_) #[oT, oT, oT, oF, oF, oF, oF, oF, oF, oF, oF, oF, oF, oF, oF, oF, oF, oF, oF, oF, oF, oF, oF, oF, oF, oF, oF, oF, oF, oF, oF] rfl rfl (any_of HT_.out (by kernel_rfl)) (fun _ _ _ h => h) (Or.inl ⟨by rfl, ?_⟩) ?_ ?_
                rotate_left
                ·
                 intro w'
                 go_simp
                 with_reducible rfl
                rotate_left
                ·
                 simp only [Act.put, sTA, sS0, sS1, i64_w, i32_w]
                 rfl
                refine take_ (i := 3) (N := some 55) (v := ?_) (a' := ?_) #[oT, oT, oT, oT, oF, oF, oF, oF, oF, oF, oF, oF, oF, oF, oF, oF, oF, oF, oF, oF, oF, oF, oF, oF, oF, oF, oF, oF, oF, oF, oF] rfl rfl (take_ofW HT_.out HW_.out (by kernel_rfl)) (fun _ _ _ h => h) (Or.inl ⟨by rfl, ?_⟩) hHeld ?_ ?_
                rotate_left
                ·
                 intro w' s0
                 go_simp
                 with_reducible rfl
                rotate_left
                ·
                 simp only [Act.put, sTA, sS0, sS1, i64_w, i32_w]
                 rfl
                refine pure_ (i := 4) (N := some 56) (v := ?_) (a' := ?_) #[oT, oT, oT, oT, oT, oF, oF, oF, oF, oF, oF, oF, oF, oF, oF, oF, oF, oF, oF, oF, oF, oF, oF, oF, oF, oF, oF, oF, oF, oF, oF] rfl rfl (any_of HT_.out (by kernel_rfl)) (fun _ _ _ h => h) (Or.inl ⟨by rfl, ?_⟩) ?_ ?_
                rotate_left
                ·
                 intro w'
                 go_simp
                 with_reducible rfl
                rotate_left
                ·
                 simp only [Act.put, sTA, sS0, sS1, i64_w, i32_w]
                 rfl
                refine pure_ (i := 5) (N := some 57) (v := ?_) (a' := ?_) #[oT, oT, oT, oT, oT, oT, oF, oF, oF, oF, oF, oF, oF, oF, oF, oF, oF, oF, oF, oF, oF, oF, oF, oF, oF, oF, oF, oF, oF, oF, oF] rfl rfl (any_of HT_.out (by kernel_rfl)) (fun _ _ _ h => h) (Or.inl ⟨by rfl, ?_⟩) ?_ ?_
                rotate_left
                ·
                 intro w'
                 go_simp
                 with_reducible rfl
                rotate_left
                ·
                 simp only [Act.put, sTA, sS0, sS1, i64_w, i32_w]
                 rfl
                refine pure_ (i := 6) (N := some 58) (v := ?_) (a' := ?_) #[oT, oT, oT, oT, oT, oT, oT, oF, oF, oF, oF, oF, oF, oF, oF, oF, oF, oF, oF, oF, oF, oF, oF, oF, oF, oF, oF, oF, oF, oF, oF] rfl rfl (any_of HT_.out (by kernel_rfl)) (fun _ _ _ h => h) (Or.inl ⟨by rfl, ?_⟩) ?_ ?_
                rotate_left
                ·
                 intro w'
                 go_simp
                 with_reducible rfl
                rotate_left
                ·
                 simp only [Act.put, sTA, sS0, sS1, i64_w, i32_w]
                 rfl
                refine pure_ (i := 7) (N := some 59) (v := ?_) (a' := ?_) #[oT, oT, oT, oT, oT, oT, oT, oT, oF, oF, oF, oF, oF, oF, oF, oF, oF, oF, oF, oF, oF, oF, oF, oF, oF, oF, oF, oF, oF, oF, oF] rfl rfl (any_of HT_.out (by kernel_rfl)) (fun _ _ _ h => h) (Or.inl ⟨by rfl, ?_⟩) ?_ ?_
                rotate_left
                ·
                 intro w'
                 go_simp
                 with_reducible rfl
                rotate_left
                ·
                 simp only [Act.put, sTA, sS0, sS1, i64_w, i32_w]
                 rfl
                refine pure_ (i := 8) (N := some 60) (v := ?_) (a' := ?_) #[oT, oT, oT, oT, oT, oT, oT, oT, oT, oF, oF, oF, oF, oF, oF, oF, oF, oF, oF, oF, oF, oF, oF, oF, oF, oF, oF, oF, oF, oF, oF] rfl rfl (any_of HT_.out (by kernel_rfl)) (fun _ _ _ h => h) (Or.inl ⟨by rfl, ?_⟩) ?_ ?_
                rotate_left
                ·
                 intro w'
                 go_simp
                 with_reducible rfl
                rotate_left
                ·
                 simp only [Act.put, sTA, sS0, sS1, i64_w, i32_w]
                 rfl
                refine pure_ (i := 9) (N := some 61) (v := ?_) (a' := ?_) #[oT, oT, oT, oT, oT, oT, oT, oT, oT, oT, oF, oF, oF, oF, oF, oF, oF, oF, oF, oF, oF, oF, oF, oF, oF, oF, oF, oF, oF, oF, oF] rfl rfl (any_of HT_.out (by kernel_rfl)) (fun _ _ _ h => h) (Or.inl ⟨by rfl, ?_⟩) ?_ ?_
                rotate_left
                ·
                 intro w'
                 go_simp
                 with_reducible rfl
                rotate_left
                ·
                 simp only [Act.put, sTA, sS0, sS1, i64_w, i32_w]
                 rfl
                refine pure_ (i := 10) (N := some 62) (v := ?_) (a' := ?_) #[oT, oT, oT, oT, oT, oT, oT, oT, oT, oT, oT, oF, oF, oF, oF, oF, oF, oF, oF, oF, oF, oF, oF, oF, oF, oF, oF, oF, oF, oF, oF] rfl rfl (any_of HT_.out (by kernel_rfl)) (fun _ _ _ h => h) (Or.inl ⟨by rfl, ?_⟩) ?_ ?_
                rotate_left
                ·
                 intro w'
                 go_simp
                 with_reducible rfl
                rotate_left
                ·
                 simp only [Act.put, sTA, sS0, sS1, i64_w, i32_w]
                 rfl
                refine pure_ (i := 11) (N := some 63) (v := ?_) (a' := ?_) #[oT, oT, oT, oT, oT, oT, oT, oT, oT, oT, oT, oT, oF, oF, oF, oF, oF, oF, oF, oF, oF, oF, oF, oF, oF, oF, oF, oF, oF, oF, oF] rfl rfl (any_of HT_.out (by kernel_rfl)) (fun _ _ _ h => h) (Or.inl ⟨by rfl, ?_⟩) ?_ ?_
                rotate_left
                ·
                 intro w'
                 go_simp
                 with_reducible rfl
                rotate_left
                ·
                 simp only [Act.put, sTA, sS0, sS1, i64_w, i32_w]
                 rfl
                refine pure_ (i := 12) (N := some 64) (v := undef) (a' := ?_) #[oT, oT, oT, oT, oT, oT, oT, oT, oT, oT, oT, oT, oT, oF, oF, oF, oF, oF, oF, oF, oF, oF, oF, oF, oF, oF, oF, oF, oF, oF, oF] rfl rfl (any_of HT_.out (by kernel_rfl)) (fun _ _ _ h => h) (Or.inr ⟨by rfl, rfl⟩) ?_ ?_
                rotate_left
                ·
                 simp only [Act.put, sTA, sS0, sS1, i64_w, i32_w]
                 rfl
                refine pure_ (i := 13) (N := some 65) (v := undef) (a' := ?_) #[oT, oT, oT, oT, oT, oT, oT, oT, oT, oT, oT, oT, oT, oT, oF, oF, oF, oF, oF, oF, oF, oF, oF, oF, oF, oF, oF, oF, oF, oF, oF] rfl rfl (any_of HT_.out (by kernel_rfl)) (fun _ _ _ h => h) (Or.inr ⟨by rfl, rfl⟩) ?_ ?_
                rotate_left
                ·
                 simp only [Act.put, sTA, sS0, sS1, i64_w, i32_w]
                 rfl
                refine pure_ (i := 14) (N := some 66) (v := undef) (a' := ?_) #[oT, oT, oT, oT, oT, oT, oT, oT, oT, oT, oT, oT, oT, oT, oT, oF, oF, oF, oF, oF, oF, oF, oF, oF, oF, oF, oF, oF, oF, oF, oF] rfl rfl (any_of HT_.out (by kernel_rfl)) (fun _ _ _ h => h) (Or.inr ⟨by rfl, rfl⟩) ?_ ?_
                rotate_left
                ·
                 simp only [Act.put, sTA, sS0, sS1, i64_w, i32_w]
                 rfl
                refine pure_ (i := 15) (N := some 67) (v := undef) (a' := ?_) #[oT, oT, oT, oT, oT, oT, oT, oT, oT, oT, oT, oT, oT, oT, oT, oT, oF, oF, oF, oF, oF, oF, oF, oF, oF, oF, oF, oF, oF, oF, oF] rfl rfl (any_of HT_.out (by kernel_rfl)) (fun _ _ _ h => h) (Or.inr ⟨by rfl, rfl⟩) ?_ ?_
                rotate_left
                ·
                 simp only [Act.put, sTA, sS0, sS1, i64_w, i32_w]
                 rfl
                refine pure_ (i := 16) (N := some 68) (v := undef) (a' := ?_) #[oT, oT, oT, oT, oT, oT, oT, oT, oT, oT, oT, oT, oT, oT, oT, oT, oT, oF, oF, oF, oF, oF, oF, oF, oF, oF, oF, oF, oF, oF, oF] rfl rfl (any_of HT_.out (by kernel_rfl)) (fun _ _ _ h => h) (Or.inr ⟨by rfl, rfl⟩) ?_ ?_
                rotate_left
                ·
                 simp only [Act.put, sTA, sS0, sS1, i64_w, i32_w]
                 rfl
                refine pure_ (i := 17) (N := some 69) (v := undef) (a' := ?_) #[oT, oT, oT, oT, oT, oT, oT, oT, oT, oT, oT, oT, oT, oT, oT, oT, oT, oT, oF, oF, oF, oF, oF, oF, oF, oF, oF, oF, oF, oF, oF] rfl rfl (any_of HT_.out (by kernel_rfl)) (fun _ _ _ h => h) (Or.inr ⟨by rfl, rfl⟩) ?_ ?_
                rotate_left
                ·
                 simp only [Act.put, sTA, sS0, sS1, i64_w, i32_w]
                 rfl
                refine pure_ (i := 18) (N := some 70) (v := undef) (a' := ?_) #[oT, oT, oT, oT, oT, oT, oT, oT, oT, oT, oT, oT, oT, oT, oT, oT, oT, oT, oT, oF, oF, oF, oF, oF, oF, oF, oF, oF, oF, oF, oF] rfl rfl (any_of HT_.out (by kernel_rfl)) (fun _ _ _ h => h) (Or.inr ⟨by rfl, rfl⟩) ?_ ?_
                rotate_left
                ·
                 simp only [Act.put, sTA, sS0, sS1, i64_w, i32_w]
                 rfl
                refine pure_ (i := 19) (N := some 71) (v := undef) (a' := ?_) #[oT, oT, oT, oT, oT, oT, oT, oT, oT, oT, oT, oT, oT, oT, oT, oT, oT, oT, oT, oT, oF, oF, oF, oF, oF, oF, oF, oF, oF, oF, oF] rfl rfl (any_of HT_.out (by kernel_rfl)) (fun _ _ _ h => h) (Or.inr ⟨by rfl, rfl⟩) ?_ ?_
                rotate_left
                ·
                 simp only [Act.put, sTA, sS0, sS1, i64_w, i32_w]
                 rfl
                refine pure_ (i := 20) (N := some 72) (v := undef) (a' := ?_) #[oT, oT, oT, oT, oT, oT, oT, oT, oT, oT, oT, oT, oT, oT, oT, oT, oT, oT, oT, oT, oT, oF, oF, oF, oF, oF, oF, oF, oF, oF, oF] rfl rfl (any_of HT_.out (by kernel_rfl)) (fun _ _ _ h => h) (Or.inr ⟨by rfl, rfl⟩) ?_ ?_
                rotate_left
                ·
                 simp only [Act.put, sTA, sS0, sS1, i64_w, i32_w]
                 rfl
                refine pure_ (i := 21) (N := some 73) (v := undef) (a' := ?_) #[oT, oT, oT, oT, oT, oT, oT, oT, oT, oT, oT, oT, oT, oT, oT, oT, oT, oT, oT, oT, oT, oT, oF, oF, oF, oF, oF, oF, oF, oF, oF] rfl rfl (any_of HT_.out (by kernel_rfl)) (fun _ _ _ h => h) (Or.inr ⟨by rfl, rfl⟩) ?_ ?_
                rotate_left
                ·
                 simp only [Act.put, sTA, sS0, sS1, i64_w, i32_w]
                 rfl
                refine pure_ (i := 22) (N := some 74) (v := undef) (a' := ?_) #[oT, oT, oT, oT, oT, oT, oT, oT, oT, oT, oT, oT, oT, oT, oT, oT, oT, oT, oT, oT, oT, oT, oT, oF, oF, oF, oF, oF, oF, oF, oF] rfl rfl (any_of HT_.out (by kernel_rfl)) (fun _ _ _ h => h) (Or.inr ⟨by rfl, rfl⟩) ?_ ?_
                rotate_left
                ·
                 simp only [Act.put, sTA, sS0, sS1, i64_w, i32_w]
                 rfl
                refine pure_ (i := 23) (N := some 75) (v := undef) (a' := ?_) #[oT, oT, oT, oT, oT, oT, oT, oT, oT, oT, oT, oT, oT, oT, oT, oT, oT, oT, oT, oT, oT, oT, oT, oT, oF, oF, oF, oF, oF, oF, oF] rfl rfl (any_of HT_.out (by kernel_rfl)) (fun _ _ _ h => h) (Or.inr ⟨by rfl, rfl⟩) ?_ ?_
                rotate_left
                ·
                 simp only [Act.put, sTA, sS0, sS1, i64_w, i32_w]
                 rfl
                refine pure_ (i := 24) (N := some 76) (v := undef) (a' := ?_) #[oT, oT, oT, oT, oT, oT, oT, oT, oT, oT, oT, oT, oT, oT, oT, oT, oT, oT, oT, oT, oT, oT, oT, oT, oT, oF, oF, oF, oF, oF, oF] rfl rfl (any_of HT_.out (by kernel_rfl)) (fun _ _ _ h => h) (Or.inr ⟨by rfl, rfl⟩) ?_ ?_
                rotate_left
                ·
                 simp only [Act.put, sTA, sS0, sS1, i64_w, i32_w]
                 rfl
                refine pure_ (i := 25) (N := some 77) (v := undef) (a' := ?_) #[oT, oT, oT, oT, oT, oT, oT, oT, oT, oT, oT, oT, oT, oT, oT, oT, oT, oT, oT, oT, oT, oT, oT, oT, oT, oT, oF, oF, oF, oF, oF] rfl rfl (any_of HT_.out (by kernel_rfl)) (fun _ _ _ h => h) (Or.inr ⟨by rfl, rfl⟩) ?_ ?_
                rotate_left
                ·
                 simp only [Act.put, sTA, sS0, sS1, i64_w, i32_w]
                 rfl
                refine pure_ (i := 26) (N := some 78) (v := undef) (a' := ?_) #[oT, oT, oT, oT, oT, oT, oT, oT, oT, oT, oT, oT, oT, oT, oT, oT, oT, oT, oT, oT, oT, oT, oT, oT, oT, oT, oT, oF, oF, oF, oF] rfl rfl (any_of HT_.out (by kernel_rfl)) (fun _ _ _ h => h) (Or.inr ⟨by rfl, rfl⟩) ?_ ?_
                rotate_left
                ·
                 simp only [Act.put, sTA, sS0, sS1, i64_w, i32_w]
                 rfl
                refine pure_ (i := 27) (N := some 79) (v := undef) (a' := ?_) #[oT, oT, oT, oT, oT, oT, oT, oT, oT, oT, oT, oT, oT, oT, oT, oT, oT, oT, oT, oT, oT, oT, oT, oT, oT, oT, oT, oT, oF, oF, oF] rfl rfl (any_of HT_.out (by kernel_rfl)) (fun _ _ _ h => h) (Or.inr ⟨by rfl, rfl⟩) ?_ ?_
                rotate_left
                ·
                 simp only [Act.put, sTA, sS0, sS1, i64_w, i32_w]
                 rfl
                refine pure_ (i := 28) (N := some 80) (v := undef) (a' := ?_) #[oT, oT, oT, oT, oT, oT, oT, oT, oT, oT, oT, oT, oT, oT, oT, oT, oT, oT, oT, oT, oT, oT, oT, oT, oT, oT, oT, oT, oT, oF, oF] rfl rfl (any_of HT_.out (by kernel_rfl)) (fun _ _ _ h => h) (Or.inr ⟨by rfl, rfl⟩) ?_ ?_
                rotate_left
                ·
                 simp only [Act.put, sTA, sS0, sS1, i64_w, i32_w]
                 rfl
                refine pure_ (i := 29) (N := some 81) (v := ?_) (a' := ?_) #[oT, oT, oT, oT, oT, oT, oT, oT, oT, oT, oT, oT, oT, oT, oT, oT, oT, oT, oT, oT, oT, oT, oT, oT, oT, oT, oT, oT, oT, oT, oF] rfl rfl (any_of HT_.out (by kernel_rfl)) (fun _ _ _ h => h) (Or.inl ⟨by rfl, ?_⟩) ?_ ?_
                rotate_left
                ·
                 intro w'
                 go_simp
                 with_reducible rfl
                rotate_left
                ·
                 simp only [Act.put, sTA, sS0, sS1, i64_w, i32_w]
                 rfl
                refine pure_ (i := 30) (N := some 82) (v := ?_) (a' := ?_) #[oT, oT, oT, oT, oT, oT, oT, oT, oT, oT, oT, oT, oT, oT, oT, oT, oT, oT, oT, oT, oT, oT, oT, oT, oT, oT, oT, oT, oT, oT, oT] rfl rfl (any_of HT_.out (by kernel_rfl)) (fun _ _ _ h => h) (Or.inl ⟨by rfl, ?_⟩) ?_ ?_
                rotate_left
                ·
                 intro w'
                 go_simp
                 with_reducible rfl
                rotate_left
                ·
                 simp only [Act.put, sTA, sS0, sS1, i64_w, i32_w]
                 rfl
                refine done_ (done_of HT_.out (by kernel_rfl)) ?_
                try go_wp2
                go_roundg k2
                case measure => have := HK1.out; have := HK2.out; omega
                case rel => exact ⟨(x10_2), (wrap64 (x10_2 + 1)), (by first | rfl | (simp; done) | (simp [*]; done)), (by first | rfl | (simp; done) | (simp [*]; done)), H', ⟨by have := HK1.out; have := HK2.out; omega⟩, ⟨by (with_reducible repeat (first | apply Kd.R_alloc | apply Kd.R_drewN | apply Kd.R_drew)); exact HO_4.out⟩, ⟨by (with_reducible repeat (first | apply Kd.R_alloc | apply Kd.R_drewN | apply Kd.R_drew)); exact HO_5.out⟩, ⟨by (with_reducible repeat (first | apply Kd.R_alloc | apply Kd.R_drewN | apply Kd.R_drew)); exact HO_6.out⟩, ⟨by (with_reducible repeat (first | apply Kd.R_alloc | apply Kd.R_drewN | apply Kd.R_drew)); exact HO_7.out⟩, ⟨by repeat (first | (with_reducible first | exact HB.out | apply below_alloc | apply pw_below_drewN | apply below_drew1) | exact HB.out)⟩⟩
               ·
                rw [if_neg c23] at H
                have c23b0 : decide (x9_2 < 0) = false := decide_eq_false c23
                clear c23
                by_cases c27 : 0 ≤ x9_2
                ·
                 rw [if_pos c27] at H
                 have c27b0 : decide (0 ≤ x9_2) = true := decide_eq_true c27
                 clear c27
                 by_cases c28 : x9_2 < (l0.length : Int)
                 ·
                  rw [if_pos c28] at H
                  have c28b0 : decide (x9_2 < (l0.length : Int)) = true := decide_eq_true c28
                  clear c28
                  by_cases c29 : x10_2 < (t209.length : Int)
                  ·
                   rw [if_pos c29] at H
                   have c29b0 : decide (x10_2 < (t209.length : Int)) = true := decide_eq_true c29
                   clear c29
                   by_cases c30 : x9_2 < (t209.length : Int)
                   ·
                    rw [if_pos c30] at H
                    have c30b0 : decide (x9_2 < (t209.length : Int)) = true := decide_eq_true c30
                    clear c30
                    replace H := Option.bind_eq_some_iff.mp H
                    obtain ⟨t226, A310, H⟩ := H
                    replace H : (if t226 = true then (casementref16_Order.l1 k2 l0 t206 t209 x6_1 x7_1 x8_1 x10_2 (wrap64 (x10_2 + 1))) else (casementref16_Order.l1 k2 l0 t206 t209 x6_1 x7_1 x8_1 x9_2 (wrap64 (x10_2 + 1)))) = some (r1, r2) := H
                    have A31 := Aside0.mk A310
                    clear A310
                    by_cases c32 : t226 = true
                    ·
                     subst c32
                     have H1 : (casementref16_Order.l1 k2 l0 t206 t209 x6_1 x7_1 x8_1 x10_2 (wrap64 (x10_2 + 1))) = some (r1, r2) := by rw [if_pos rfl] at H; exact H
                     clear H
                     have H := H1
                     clear H1
                     have H' := Aside0.mk H
                     clear H
                     obtain ⟨Ao33, co33, eo33⟩ := Kd.R_slice HO_4.out
                     subst eo33
                     have p220 : 0 ≤ (x10_2 : Int) := of_decide_eq_true (by assumption)
                     have q220 : x10_2 < (t206.length : Int) := of_decide_eq_true (by assumption)
                     obtain ⟨ad220, e220, hx220_0⟩ := Kd.at_int (Kd.R_reads' HO_4.out).2.2 x10_2 p220 q220
                     cases e220
                     replace p220 := eq_true p220
                     replace q220 := eq_true q220
                     try go_wp2
                     have n0_ := Aside0.mk (Kd.R_drew HO_4.out)
                     have n1_ := Aside0.mk (Kd.R_drew HO_5.out)
                     have n2_ := Aside0.mk (Kd.R_drew HO_6.out)
                     have n3_ := Aside0.mk (Kd.R_drew HO_7.out)
                     have n4_ := Aside0.mk (below_drew1 HB.out)
                     clear HO_4
                     clear HO_5
                     clear HO_6
                     clear HO_7
                     clear HB
                     have HO_4 := n0_
                     have HO_5 := n1_
                     have HO_6 := n2_
                     have HO_7 := n3_
                     have HB := n4_
                     clear n0_ n1_ n2_ n3_ n4_
                     obtain ⟨Ao35, co35, eo35⟩ := Kd.R_slice HO_6.out
                     (first | subst eo35 | (injection eo35 with f1_ f2_ f3_; have f4_ := f1_.symm; have f5_ := f3_.symm; clear f1_ f2_ f3_; subst f4_; subst f5_))
                     have p221 : 0 ≤ (x10_2 : Int) := of_decide_eq_true (by assumption)
                     have q221 : x10_2 < (x6_1.length : Int) := of_decide_eq_true (by assumption)
                     obtain ⟨ad221, e221, hx221_0⟩ := Kd.at_bool (Kd.R_reads' HO_6.out).2.2 x10_2 p221 q221
                     (try rw [← Nbq18.out] at hx221_0)
                     cases e221
                     replace p221 := eq_true p221
                     replace q221 := eq_true q221
                     have p222 : 0 ≤ (x10_2 : Int) := of_decide_eq_true (by assumption)
                     have q222 : x10_2 < (l0.length : Int) := of_decide_eq_true (by assumption)
                     obtain ⟨ad222, e222, hx222_0, hx222_1, hx222_2, hx222_3, hx222_4, hx222_5⟩ := at_T38 HR0.out x10_2 p222 q222
                     have hw222_5 := hx222_5
                     have hw222_4 := hx222_4
                     have hw222_3 := hx222_3
                     have hw222_2 := hx222_2
                     have hw222_1 := hx222_1
                     have hw222_0 := hx222_0
                     (try rw [← Nbq18.out] at hx222_3)
                     (try rw [← Nbq18.out] at hw222_3)
                     cases e222
                     replace hx222_0 := (HB.out.cell (World.block_lt_of_cell? w _ hx222_0)).trans hx222_0
                     replace hx222_1 := (HB.out.cell (World.block_lt_of_cell? w _ hx222_1)).trans hx222_1
                     replace hx222_2 := (HB.out.cell (World.block_lt_of_cell? w _ hx222_2)).trans hx222_2
                     replace hx222_3 := (HB.out.cell (World.block_lt_of_cell? w _ hx222_3)).trans hx222_3
                     replace hx222_4 := (HB.out.cell (World.block_lt_of_cell? w _ hx222_4)).trans hx222_4
                     replace hx222_5 := (HB.out.cell (World.block_lt_of_cell? w _ hx222_5)).trans hx222_5
                     replace p222 := eq_true p222
                     replace q222 := eq_true q222
                     have p223 : 0 ≤ (x9_2 : Int) := of_decide_eq_true (by assumption)
                     have q223 : x9_2 < (l0.length : Int) := of_decide_eq_true (by assumption)
                     obtain ⟨ad223, e223, hx223_0, hx223_1, hx223_2, hx223_3, hx223_4, hx223_5⟩ := at_T38 HR0.out x9_2 p223 q223
                     have hw223_5 := hx223_5
                     have hw223_4 := hx223_4
                     have hw223_3 := hx223_3
                     have hw223_2 := hx223_2
                     have hw223_1 := hx223_1
                     have hw223_0 := hx223_0
                     (try rw [← Nbq18.out] at hx223_3)
                     (try rw [← Nbq18.out] at hw223_3)
                     obtain rfl : ad222 = ad223 := (by injection e223)
                     replace hx223_0 := (HB.out.cell (World.block_lt_of_cell? w _ hx223_0)).trans hx223_0
                     replace hx223_1 := (HB.out.cell (World.block_lt_of_cell? w _ hx223_1)).trans hx223_1
                     replace hx223_2 := (HB.out.cell (World.block_lt_of_cell? w _ hx223_2)).trans hx223_2
                     replace hx223_3 := (HB.out.cell (World.block_lt_of_cell? w _ hx223_3)).trans hx223_3
                     replace hx223_4 := (HB.out.cell (World.block_lt_of_cell? w _ hx223_4)).trans hx223_4
                     replace hx223_5 := (HB.out.cell (World.block_lt_of_cell? w _ hx223_5)).trans hx223_5
                     replace p223 := eq_true p223
                     replace q223 := eq_true q223
                     obtain ⟨Ao36, co36, eo36⟩ := Kd.R_slice HO_5.out
                     (first | subst eo36 | (injection eo36 with f1_ f2_ f3_; have f4_ := f1_.symm; have f5_ := f3_.symm; clear f1_ f2_ f3_; subst f4_; subst f5_))
                     have p224 : 0 ≤ (x10_2 : Int) := of_decide_eq_true (by assumption)
                     have q224 : x10_2 < (t209.length : Int) := of_decide_eq_true (by assumption)
                     obtain ⟨ad224, e224, hx224_0⟩ := Kd.at_int (Kd.R_reads' HO_5.out).2.2 x10_2 p224 q224
                     cases e224
                     replace p224 := eq_true p224
                     replace q224 := eq_true q224
                     have p225 : 0 ≤ (x9_2 : Int) := of_decide_eq_true (by assumption)
                     have q225 : x9_2 < (t209.length : Int) := of_decide_eq_true (by assumption)
                     obtain ⟨ad225, e225, hx225_0⟩ := Kd.at_int (Kd.R_reads' HO_5.out).2.2 x9_2 p225 q225
                     obtain rfl : ad224 = ad225 := (by injection e225)
                     replace p225 := eq_true p225
                     replace q225 := eq_true q225
                     refine start_ (n := 31) (S := fun w' => w'.cell? (ad221.add (x10_2).toNat) = some (.bool false) ∧ w'.cell? (ad222.add ((x10_2).toNat * 6)) = some (.int .i64 ((rd_T38 l0 x10_2).f0)) ∧ w'.cell? ⟨(ad222.add ((x10_2).toNat * 6)).block, (ad222.add ((x10_2).toNat * 6)).off + 1, none⟩ = some (.int .i64 ((rd_T38 l0 x10_2).f1)) ∧ w'.cell? ⟨(ad222.add ((x10_2).toNat * 6)).block, (ad222.add ((x10_2).toNat * 6)).off + 2, none⟩ = some (.int .i64 ((rd_T38 l0 x10_2).f2)) ∧ w'.cell? ⟨(ad222.add ((x10_2).toNat * 6)).block, (ad222.add ((x10_2).toNat * 6)).off + 3, none⟩ = some (.bool ((rd_T38 l0 x10_2).f3)) ∧ w'.cell? ⟨(ad222.add ((x10_2).toNat * 6)).block, (ad222.add ((x10_2).toNat * 6)).off + 4, none⟩ = some (.int .i64 ((rd_T38 l0 x10_2).f4)) ∧ w'.cell? ⟨(ad222.add ((x10_2).toNat * 6)).block, (ad222.add ((x10_2).toNat * 6)).off + 5, none⟩ = some (.int .i64 ((rd_T38 l0 x10_2).f5)) ∧ w'.cell? (ad222.add ((x9_2).toNat * 6)) = some (.int .i64 ((rd_T38 l0 x9_2).f0)) ∧ w'.cell? ⟨(ad222.add ((x9_2).toNat * 6)).block, (ad222.add ((x9_2).toNat * 6)).off + 1, none⟩ = some (.int .i64 ((rd_T38 l0 x9_2).f1)) ∧ w'.cell? ⟨(ad222.add ((x9_2).toNat * 6)).block, (ad222.add ((x9_2).toNat * 6)).off + 2, none⟩ = some (.int .i64 ((rd_T38 l0 x9_2).f2)) ∧ w'.cell? ⟨(ad222.add ((x9_2).toNat * 6)).block, (ad222.add ((x9_2).toNat * 6)).off + 3, none⟩ = some (.bool ((rd_T38 l0 x9_2).f3)) ∧ w'.cell? ⟨(ad222.add ((x9_2).toNat * 6)).block, (ad222.add ((x9_2).toNat * 6)).off + 4, none⟩ = some (.int .i64 ((rd_T38 l0 x9_2).f4)) ∧ w'.cell? ⟨(ad222.add ((x9_2).toNat * 6)).block, (ad222.add ((x9_2).toNat * 6)).off + 5, none⟩ = some (.int .i64 ((rd_T38 l0 x9_2).f5)) ∧ w'.cell? (ad224.add (x10_2).toNat) = some (.int .i64 (rd t209 x10_2)) ∧ w'.cell? (ad224.add (x9_2).toNat) = some (.int .i64 (rd t209 x9_2))) (ds := []) #[oF, oF, oF, oF, oF, oF, oF, oF, oF, oF, oF, oF, oF, oF, oF, oF, oF, oF, oF, oF, oF, oF, oF, oF, oF, oF, oF, oF, oF, oF, oF] (by kernel_rfl) rfl rfl ⟨hx221_0, ((HB.out.cell (World.block_lt_of_cell? w _ hw222_0)).trans hw222_0), ((HB.out.cell (World.block_lt_of_cell? w _ hw222_1)).trans hw222_1), ((HB.out.cell (World.block_lt_of_cell? w _ hw222_2)).trans hw222_2), ((HB.out.cell (World.block_lt_of_cell? w _ hw222_3)).trans hw222_3), ((HB.out.cell (World.block_lt_of_cell? w _ hw222_4)).trans hw222_4), ((HB.out.cell (World.block_lt_of_cell? w _ hw222_5)).trans hw222_5), ((HB.out.cell (World.block_lt_of_cell? w _ hw223_0)).trans hw223_0), ((HB.out.cell (World.block_lt_of_cell? w _ hw223_1)).trans hw223_1), ((HB.out.cell (World.block_lt_of_cell? w _ hw223_2)).trans hw223_2), ((HB.out.cell (World.block_lt_of_cell? w _ hw223_3)).trans hw223_3), ((HB.out.cell (World.block_lt_of_cell? w _ hw223_4)).trans hw223_4), ((HB.out.cell (World.block_lt_of_cell? w _ hw223_5)).trans hw223_5), hx224_0, hx225_0⟩ (fun hHeld => ?_); refine with_tabW casementref16_Order.tab14 casementref16_Order.bits14 (fun HT_ HW_ => ?_)
                     generalize wr.drew = w34 at HO_4 HO_5 HO_6 HO_7 HB hx221_0 hx222_0 hx222_1 hx222_2 hx222_3 hx222_4 hx222_5 hx223_0 hx223_1 hx223_2 hx223_3 hx223_4 hx223_5 hx224_0 hx225_0 hHeld ⊢
                     refine pure_ (i := 0) (N := some 52) (v := ?_) (a' := ?_) #[oT, oF, oF, oF, oF, oF, oF, oF, oF, oF, oF, oF, oF, oF, oF, oF, oF, oF, oF, oF, oF, oF, oF, oF, oF, oF, oF, oF, oF, oF, oF] rfl rfl (any_of HT_.out (by kernel_rfl)) (fun _ _ _ h => h) (Or.inl ⟨by rfl, ?_⟩) ?_ ?_
                     rotate_left
                     ·
                      intro w'
                      go_simp
                      with_reducible rfl
                     rotate_left
                     ·
                      simp only [Act.put, sTA, sS0, sS1, i64_w, i32_w]
                      rfl
                     refine pure_ (i := 1) (N := some 53) (v := ?_) (a' := ?_) #[oT, oT, oF, oF, oF, oF, oF, oF, oF, oF, oF, oF, oF, oF, oF, oF, oF, oF, oF, oF, oF, oF, oF, oF, oF, oF, oF, oF, oF, oF, oF] rfl rfl (any_of HT_.out (by kernel_rfl)) (fun _ _ _ h => h) (Or.inl ⟨by rfl, ?_⟩) ?_ ?_
                     rotate_left
                     ·
                      intro w'
                      go_simp
                      with_reducible rfl
                     rotate_left
                     ·
                      simp only [Act.put, sTA, sS0, sS1, i64_w, i32_w]
                      rfl
                     refine pure_ (i := 2) (N := some 54) (v := ?_) (a' := ?_) #[oT, oT, oT, oF, oF, oF, oF, oF, oF, oF, oF, oF, oF, oF, oF, oF, oF, oF, oF, oF, oF, oF, oF, oF, oF, oF, oF, oF, oF, oF, oF] rfl rfl (any_of HT_.out (by kernel_rfl)) (fun _ _ _ h => h) (Or.inl ⟨by rfl, ?_⟩) ?_ ?_
                     rotate_left
                     ·
                      intro w'
                      go_simp
                      with_reducible rfl
                     rotate_left
                     ·
                      simp only [Act.put, sTA, sS0, sS1, i64_w, i32_w]
                      rfl
                     refine take_ (i := 3) (N := some 55) (v := ?_) (a' := ?_) #[oT, oT, oT, oT, oF, oF, oF, oF, oF, oF, oF, oF, oF, oF, oF, oF, oF, oF, oF, oF, oF, oF, oF, oF, oF, oF, oF, oF, oF, oF, oF] rfl rfl (take_ofW HT_.out HW_.out (by kernel_rfl)) (fun _ _ _ h => h) (Or.inl ⟨by rfl, ?_⟩) hHeld ?_ ?_
                     rotate_left
                     ·
                      rintro w' ⟨s0, s1, s2, s3, s4, s5, s6, s7, s8, s9, s10, s11, s12, s13, s14⟩
                      go_simp
                      with_reducible rfl
                     rotate_left
                     ·
                      simp only [Act.put, sTA, sS0, sS1, i64_w, i32_w]
                      rfl
                     refine pure_ (i := 4) (N := some 56) (v := ?_) (a' := ?_) #[oT, oT, oT, oT, oT, oF, oF, oF, oF, oF, oF, oF, oF, oF, oF, oF, oF, oF, oF, oF, oF, oF, oF, oF, oF, oF, oF, oF, oF, oF, oF] rfl rfl (any_of HT_.out (by kernel_rfl)) (fun _ _ _ h => h) (Or.inl ⟨by rfl, ?_⟩) ?_ ?_
                     rotate_left
                     ·
                      intro w'
                      go_simp
                      with_reducible rfl
                     rotate_left
                     ·
                      simp only [Act.put, sTA, sS0, sS1, i64_w, i32_w]
                      rfl
                     refine pure_ (i := 5) (N := some 57) (v := ?_) (a' := ?_) #[oT, oT, oT, oT, oT, oT, oF, oF, oF, oF, oF, oF, oF, oF, oF, oF, oF, oF, oF, oF, oF, oF, oF, oF, oF, oF, oF, oF, oF, oF, oF] rfl rfl (any_of HT_.out (by kernel_rfl)) (fun _ _ _ h => h) (Or.inl ⟨by rfl, ?_⟩) ?_ ?_
                     rotate_left
                     ·
                      intro w'
                      go_simp
                      with_reducible rfl
                     rotate_left
                     ·
                      simp only [Act.put, sTA, sS0, sS1, i64_w, i32_w]
                      rfl
                     refine pure_ (i := 6) (N := some 58) (v := ?_) (a' := ?_) #[oT, oT, oT, oT, oT, oT, oT, oF, oF, oF, oF, oF, oF, oF, oF, oF, oF, oF, oF, oF, oF, oF, oF, oF, oF, oF, oF, oF, oF, oF, oF] rfl rfl (any_of HT_.out (by kernel_rfl)) (fun _ _ _ h => h) (Or.inl ⟨by rfl, ?_⟩) ?_ ?_
                     rotate_left
                     ·
                      intro w'
                      go_simp
                      with_reducible rfl
                     rotate_left
                     ·
                      simp only [Act.put, sTA, sS0, sS1, i64_w, i32_w]
                      rfl
                     refine pure_ (i := 7) (N := some 59) (v := ?_) (a' := ?_) #[oT, oT, oT, oT, oT, oT, oT, oT, oF, oF, oF, oF, oF, oF, oF, oF, oF, oF, oF, oF, oF, oF, oF, oF, oF, oF, oF, oF, oF, oF, oF] rfl rfl (any_of HT_.out (by kernel_rfl)) (fun _ _ _ h => h) (Or.inl ⟨by rfl, ?_⟩) ?_ ?_
                     rotate_left
                     ·
                      intro w'
                      go_simp
                      with_reducible rfl
                     rotate_left
                     ·
                      simp only [Act.put, sTA, sS0, sS1, i64_w, i32_w]
                      rfl
                     refine pure_ (i := 8) (N := some 60) (v := ?_) (a' := ?_) #[oT, oT, oT, oT, oT, oT, oT, oT, oT, oF, oF, oF, oF, oF, oF, oF, oF, oF, oF, oF, oF, oF, oF, oF, oF, oF, oF, oF, oF, oF, oF] rfl rfl (any_of HT_.out (by kernel_rfl)) (fun _ _ _ h => h) (Or.inl ⟨by rfl, ?_⟩) ?_ ?_
                     rotate_left
                     ·
                      intro w'
                      go_simp
                      with_reducible rfl
                     rotate_left
                     ·
                      simp only [Act.put, sTA, sS0, sS1, i64_w, i32_w]
                      rfl
                     refine pure_ (i := 9) (N := some 61) (v := ?_) (a' := ?_) #[oT, oT, oT, oT, oT, oT, oT, oT, oT, oT, oF, oF, oF, oF, oF, oF, oF, oF, oF, oF, oF, oF, oF, oF, oF, oF, oF, oF, oF, oF, oF] rfl rfl (any_of HT_.out (by kernel_rfl)) (fun _ _ _ h => h) (Or.inl ⟨by rfl, ?_⟩) ?_ ?_
                     rotate_left
                     ·
                      intro w'
                      go_simp
                      with_reducible rfl
                     rotate_left
                     ·
                      simp only [Act.put, sTA, sS0, sS1, i64_w, i32_w]
                      rfl
                     refine pure_ (i := 10) (N := some 62) (v := ?_) (a' := ?_) #[oT, oT, oT, oT, oT, oT, oT, oT, oT, oT, oT, oF, oF, oF, oF, oF, oF, oF, oF, oF, oF, oF, oF, oF, oF, oF, oF, oF, oF, oF, oF] rfl rfl (any_of HT_.out (by kernel_rfl)) (fun _ _ _ h => h) (Or.inl ⟨by rfl, ?_⟩) ?_ ?_
                     rotate_left
                     ·
                      intro w'
                      go_simp
                      with_reducible rfl
                     rotate_left
                     ·
                      simp only [Act.put, sTA, sS0, sS1, i64_w, i32_w]
                      rfl
                     refine pure_ (i := 11) (N := some 63) (v := ?_) (a' := ?_) #[oT, oT, oT, oT, oT, oT, oT, oT, oT, oT, oT, oT, oF, oF, oF, oF, oF, oF, oF, oF, oF, oF, oF, oF, oF, oF, oF, oF, oF, oF, oF] rfl rfl (any_of HT_.out (by kernel_rfl)) (fun _ _ _ h => h) (Or.inl ⟨by rfl, ?_⟩) ?_ ?_
                     rotate_left
                     ·
                      intro w'
                      go_simp
                      with_reducible rfl
                     rotate_left
                     ·
                      simp only [Act.put, sTA, sS0, sS1, i64_w, i32_w]
                      rfl
                     refine pure_ (i := 12) (N := some 64) (v := ?_) (a' := ?_) #[oT, oT, oT, oT, oT, oT, oT, oT, oT, oT, oT, oT, oT, oF, oF, oF, oF, oF, oF, oF, oF, oF, oF, oF, oF, oF, oF, oF, oF, oF, oF] rfl rfl (any_of HT_.out (by kernel_rfl)) (fun _ _ _ h => h) (Or.inl ⟨by rfl, ?_⟩) ?_ ?_
                     rotate_left
                     ·
                      intro w'
                      go_simp
                      with_reducible rfl
                     rotate_left
                     ·
                      simp only [Act.put, sTA, sS0, sS1, i64_w, i32_w]
                      rfl
                     refine pure_ (i := 13) (N := some 65) (v := ?_) (a' := ?_) #[oT, oT, oT, oT, oT, oT, oT, oT, oT, oT, oT, oT, oT, oT, oF, oF, oF, oF, oF, oF, oF, oF, oF, oF, oF, oF, oF, oF, oF, oF, oF] rfl rfl (any_of HT_.out (by kernel_rfl)) (fun _ _ _ h => h) (Or.inl ⟨by rfl, ?_⟩) ?_ ?_
                     rotate_left
                     ·
                      intro w'
                      go_simp
                      with_reducible rfl
                     rotate_left
                     ·
                      simp only [Act.put, sTA, sS0, sS1, i64_w, i32_w]
                      rfl
                     refine pure_ (i := 14) (N := some 66) (v := ?_) (a' := ?_) #[oT, oT, oT, oT, oT, oT, oT, oT, oT, oT, oT, oT, oT, oT, oT, oF, oF, oF, oF, oF, oF, oF, oF, oF, oF, oF, oF, oF, oF, oF, oF] rfl rfl (any_of HT_.out (by kernel_rfl)) (fun _ _ _ h => h) (Or.inl ⟨by rfl, ?_⟩) ?_ ?_
                     rotate_left
                     ·
                      intro w'
                      go_simp
                      with_reducible rfl
                     rotate_left
                     ·
                      simp only [Act.put, sTA, sS0, sS1, i64_w, i32_w]
                      rfl
                     refine pure_ (i := 16) (N := some 68) (v := ?_) (a' := ?_) #[oT, oT, oT, oT, oT, oT, oT, oT, oT, oT, oT, oT, oT, oT, oT, oF, oT, oF, oF, oF, oF, oF, oF, oF, oF, oF, oF, oF, oF, oF, oF] rfl rfl (any_of HT_.out (by kernel_rfl)) (fun _ _ _ h => h) (Or.inl ⟨by rfl, ?_⟩) ?_ ?_
                     rotate_left
                     ·
                      intro w'
                      go_simp
                      with_reducible rfl
                     rotate_left
                     ·
                      simp only [Act.put, sTA, sS0, sS1, i64_w, i32_w]
                      rfl
                     refine pure_ (i := 17) (N := some 69) (v := ?_) (a' := ?_) #[oT, oT, oT, oT, oT, oT, oT, oT, oT, oT, oT, oT, oT, oT, oT, oF, oT, oT, oF, oF, oF, oF, oF, oF, oF, oF, oF, oF, oF, oF, oF] rfl rfl (any_of HT_.out (by kernel_rfl)) (fun _ _ _ h => h) (Or.inl ⟨by rfl, ?_⟩) ?_ ?_
                     rotate_left
                     ·
                      intro w'
                      go_simp
                      with_reducible rfl
                     rotate_left
                     ·
                      simp only [Act.put, sTA, sS0, sS1, i64_w, i32_w]
                      rfl
                     refine pure_ (i := 18) (N := some 70) (v := ?_) (a' := ?_) #[oT, oT, oT, oT, oT, oT, oT, oT, oT, oT, oT, oT, oT, oT, oT, oF, oT, oT, oT, oF, oF, oF, oF, oF, oF, oF, oF, oF, oF, oF, oF] rfl rfl (any_of HT_.out (by kernel_rfl)) (fun _ _ _ h => h) (Or.inl ⟨by rfl, ?_⟩) ?_ ?_
                     rotate_left
                     ·
                      intro w'
                      go_simp
                      with_reducible rfl
                     rotate_left
                     ·
                      simp only [Act.put, sTA, sS0, sS1, i64_w, i32_w]
                      rfl
                     refine pure_ (i := 20) (N := some 72) (v := ?_) (a' := ?_) #[oT, oT, oT, oT, oT, oT, oT, oT, oT, oT, oT, oT, oT, oT, oT, oF, oT, oT, oT, oF, oT, oF, oF, oF, oF, oF, oF, oF, oF, oF, oF] rfl rfl (any_of HT_.out (by kernel_rfl)) (fun _ _ _ h => h) (Or.inl ⟨by rfl, ?_⟩) ?_ ?_
                     rotate_left
                     ·
                      intro w'
                      go_simp
                      with_reducible rfl
                     rotate_left
                     ·
                      simp only [Act.put, sTA, sS0, sS1, i64_w, i32_w]
                      rfl
                     refine pure_ (i := 21) (N := some 73) (v := ?_) (a' := ?_) #[oT, oT, oT, oT, oT, oT, oT, oT, oT, oT, oT, oT, oT, oT, oT, oF, oT, oT, oT, oF, oT, oT, oF, oF, oF, oF, oF, oF, oF, oF, oF] rfl rfl (any_of HT_.out (by kernel_rfl)) (fun _ _ _ h => h) (Or.inl ⟨by rfl, ?_⟩) ?_ ?_
                     rotate_left
                     ·
                      intro w'
                      go_simp
                      with_reducible rfl
                     rotate_left
                     ·
                      simp only [Act.put, sTA, sS0, sS1, i64_w, i32_w]
                      rfl
                     refine pure_ (i := 22) (N := some 74) (v := ?_) (a' := ?_) #[oT, oT, oT, oT, oT, oT, oT, oT, oT, oT, oT, oT, oT, oT, oT, oF, oT, oT, oT, oF, oT, oT, oT, oF, oF, oF, oF, oF, oF, oF, oF] rfl rfl (any_of HT_.out (by kernel_rfl)) (fun _ _ _ h => h) (Or.inl ⟨by rfl, ?_⟩) ?_ ?_
                     rotate_left
                     ·
                      intro w'
                      go_simp
                      with_reducible rfl
                     rotate_left
                     ·
                      simp only [Act.put, sTA, sS0, sS1, i64_w, i32_w]
                      rfl
                     refine pure_ (i := 24) (N := some 76) (v := ?_) (a' := ?_) #[oT, oT, oT, oT, oT, oT, oT, oT, oT, oT, oT, oT, oT, oT, oT, oF, oT, oT, oT, oF, oT, oT, oT, oF, oT, oF, oF, oF, oF, oF, oF] rfl rfl (any_of HT_.out (by kernel_rfl)) (fun _ _ _ h => h) (Or.inl ⟨by rfl, ?_⟩) ?_ ?_
                     rotate_left
                     ·
                      intro w'
                      go_simp
                      with_reducible rfl
                     rotate_left
                     ·
                      simp only [Act.put, sTA, sS0, sS1, i64_w, i32_w]
                      rfl
                     refine pure_ (i := 25) (N := some 77) (v := ?_) (a' := ?_) #[oT, oT, oT, oT, oT, oT, oT, oT, oT, oT, oT, oT, oT, oT, oT, oF, oT, oT, oT, oF, oT, oT, oT, oF, oT, oT, oF, oF, oF, oF, oF] rfl rfl (any_of HT_.out (by kernel_rfl)) (fun _ _ _ h => h) (Or.inl ⟨by rfl, ?_⟩) ?_ ?_
                     rotate_left
                     ·
                      intro w'
                      go_simp
                      with_reducible rfl
                     rotate_left
                     ·
                      simp only [Act.put, sTA, sS0, sS1, i64_w, i32_w]
                      rfl
                     refine pure_ (i := 26) (N := some 78) (v := ?_) (a' := ?_) #[oT, oT, oT, oT, oT, oT, oT, oT, oT, oT, oT, oT, oT, oT, oT, oF, oT, oT, oT, oF, oT, oT, oT, oF, oT, oT, oT, oF, oF, oF, oF] rfl rfl (any_of HT_.out (by kernel_rfl)) (fun _ _ _ h => h) (Or.inl ⟨by rfl, ?_⟩) ?_ ?_
                     rotate_left
                     ·
                      intro w'
                      go_simp
                      with_reducible rfl
                     rotate_left
                     ·
                      simp only [Act.put, sTA, sS0, sS1, i64_w, i32_w]
                      rfl
                     refine take_ (i := 15) (N := some 67) (v := ?_) (a' := ?_) #[oT, oT, oT, oT, oT, oT, oT, oT, oT, oT, oT, oT, oT, oT, oT, oT, oT, oT, oT, oF, oT, oT, oT, oF, oT, oT, oT, oF, oF, oF, oF] rfl rfl (take_ofW HT_.out HW_.out (by kernel_rfl)) (fun _ _ _ h => h) (Or.inl ⟨by rfl, ?_⟩) hHeld ?_ ?_
                     rotate_left
                     ·
                      rintro w' ⟨s0, s1, s2, s3, s4, s5, s6, s7, s8, s9, s10, s11, s12, s13, s14⟩
                      go_simp
                      with_reducible rfl
                     rotate_left
                     ·
                      simp only [Act.put, sTA, sS0, sS1, i64_w, i32_w]
                      rfl
                     refine take_ (i := 19) (N := some 71) (v := ?_) (a' := ?_) #[oT, oT, oT, oT, oT, oT, oT, oT, oT, oT, oT, oT, oT, oT, oT, oT, oT, oT, oT, oT, oT, oT, oT, oF, oT, oT, oT, oF, oF, oF, oF] rfl rfl (take_ofW HT_.out HW_.out (by kernel_rfl)) (fun _ _ _ h => h) (Or.inl ⟨by rfl, ?_⟩) hHeld ?_ ?_
                     rotate_left
                     ·
                      rintro w' ⟨s0, s1, s2, s3, s4, s5, s6, s7, s8, s9, s10, s11, s12, s13, s14⟩
                      go_simp
                      with_reducible rfl
                     rotate_left
                     ·
                      simp only [Act.put, sTA, sS0, sS1, i64_w, i32_w]
                      rfl
                     refine take_ (i := 23) (N := some 75) (v := ?_) (a' := ?_) #[oT, oT, oT, oT, oT, oT, oT, oT, oT, oT, oT, oT, oT, oT, oT, oT, oT, oT, oT, oT, oT, oT, oT, oT, oT, oT, oT, oF, oF, oF, oF] rfl rfl (take_ofW HT_.out HW_.out (by kernel_rfl)) (fun _ _ _ h => h) (Or.inl ⟨by rfl, ?_⟩) hHeld ?_ ?_
                     rotate_left
                     ·
                      rintro w' ⟨s0, s1, s2, s3, s4, s5, s6, s7, s8, s9, s10, s11, s12, s13, s14⟩
                      go_simp
                      with_reducible rfl
                     rotate_left
                     ·
                      simp only [Act.put, sTA, sS0, sS1, i64_w, i32_w]
                      rfl
                     refine take_ (i := 27) (N := some 79) (v := ?_) (a' := ?_) #[oT, oT, oT, oT, oT, oT, oT, oT, oT, oT, oT, oT, oT, oT, oT, oT, oT, oT, oT, oT, oT, oT, oT, oT, oT, oT, oT, oT, oF, oF, oF] rfl rfl (take_ofW HT_.out HW_.out (by kernel_rfl)) (fun _ _ _ h => h) (Or.inl ⟨by rfl, ?_⟩) hHeld ?_ ?_
                     rotate_left
                     ·
                      rintro w' ⟨s0, s1, s2, s3, s4, s5, s6, s7, s8, s9, s10, s11, s12, s13, s14⟩
                      go_simp
                      with_reducible rfl
                     rotate_left
                     ·
                      simp only [Act.put, sTA, sS0, sS1, i64_w, i32_w]
                      rfl
                     refine one_ (i := 28) (N := some 80) #[oT, oT, oT, oT, oT, oT, oT, oT, oT, oT, oT, oT, oT, oT, oT, oT, oT, oT, oT, oT, oT, oT, oT, oT, oT, oT, oT, oT, oT, oF, oF] rfl rfl (one_of HT_.out (by kernel_rfl)) (by decide) (fun K hK => ?_)
                     refine goes_ Try.func34 (by kernel_rfl) rfl #[.agg #[.int .i64 ((rd_T38 l0 x10_2).f0), .int .i64 ((rd_T38 l0 x10_2).f1), .int .i64 ((rd_T38 l0 x10_2).f2), .bool ((rd_T38 l0 x10_2).f3), .int .i64 ((rd_T38 l0 x10_2).f4), .int .i64 ((rd_T38 l0 x10_2).f5)], .agg #[.int .i64 ((rd_T38 l0 x9_2).f0), .int .i64 ((rd_T38 l0 x9_2).f1), .int .i64 ((rd_T38 l0 x9_2).f2), .bool ((rd_T38 l0 x9_2).f3), .int .i64 ((rd_T38 l0 x9_2).f4), .int .i64 ((rd_T38 l0 x9_2).f5)], .int .i64 (rd t209 x10_2), .int .i64 (rd t209 x9_2)] (by rfl) rfl rfl (by (try simp only [List.map_toArray, List.map_cons, List.map_nil]); first | done | rfl | (simp only [List.length_drop, List.length_take]; rfl)) ?_
                     with_reducible refine (casementref16_lower.calls ((rd_T38 l0 x10_2).f0) ((rd_T38 l0 x10_2).f1) ((rd_T38 l0 x10_2).f2) ((rd_T38 l0 x10_2).f3) ((rd_T38 l0 x10_2).f4) ((rd_T38 l0 x10_2).f5) ((rd_T38 l0 x9_2).f0) ((rd_T38 l0 x9_2).f1) ((rd_T38 l0 x9_2).f2) ((rd_T38 l0 x9_2).f3) ((rd_T38 l0 x9_2).f4) ((rd_T38 l0 x9_2).f5) (rd t209 x10_2) (rd t209 x9_2) true _ A31.out).mono ?_
                     rintro e w37 ⟨rfl, hb⟩
                     have HS0_ := (hb.cell (World.block_lt_of_cell? _ _ (hHeld.1))).trans (hHeld.1)
                     have HS13_ := (hb.cell (World.block_lt_of_cell? _ _ (hHeld.2.2.2.2.2.2.2.2.2.2.2.2.2.1))).trans (hHeld.2.2.2.2.2.2.2.2.2.2.2.2.2.1)
                     have HS14_ := (hb.cell (World.block_lt_of_cell? _ _ (hHeld.2.2.2.2.2.2.2.2.2.2.2.2.2.2))).trans (hHeld.2.2.2.2.2.2.2.2.2.2.2.2.2.2)
                     refine ⟨_, rfl, ?_⟩
                     have n0_ := Aside0.mk (Kd.R_below (by (with_reducible repeat (first | apply Kd.R_alloc | apply Kd.R_drewN | apply Kd.R_drew)); exact HO_4.out) hb)
                     have n1_ := Aside0.mk (Kd.R_below (by (with_reducible repeat (first | apply Kd.R_alloc | apply Kd.R_drewN | apply Kd.R_drew)); exact HO_5.out) hb)
                     have n2_ := Aside0.mk (Kd.R_below (by (with_reducible repeat (first | apply Kd.R_alloc | apply Kd.R_drewN | apply Kd.R_drew)); exact HO_6.out) hb)
                     have n3_ := Aside0.mk (Kd.R_below (by (with_reducible repeat (first | apply Kd.R_alloc | apply Kd.R_drewN | apply Kd.R_drew)); exact HO_7.out) hb)
                     have n4_ := Aside0.mk (below_step (by repeat (first | (with_reducible first | exact HB.out | apply below_alloc | apply pw_below_drewN | apply below_drew1) | exact HB.out)) hb)
                     clear HO_4
                     clear HO_5
                     clear HO_6
                     clear HO_7
                     clear HB
                     have HO_4 := n0_
                     have HO_5 := n1_
                     have HO_6 := n2_
                     have HO_7 := n3_
                     have HB := n4_
                     clear n0_ n1_ n2_ n3_ n4_
                     (try clear hb)
                     (try clear hb2)
                     (try clear hk)
                     (try clear hi)
                     refine hK.out _ _ ⟨HS0_, ((HB.out.cell (World.block_lt_of_cell? w _ hw222_0)).trans hw222_0), ((HB.out.cell (World.block_lt_of_cell? w _ hw222_1)).trans hw222_1), ((HB.out.cell (World.block_lt_of_cell? w _ hw222_2)).trans hw222_2), ((HB.out.cell (World.block_lt_of_cell? w _ hw222_3)).trans hw222_3), ((HB.out.cell (World.block_lt_of_cell? w _ hw222_4)).trans hw222_4), ((HB.out.cell (World.block_lt_of_cell? w _ hw222_5)).trans hw222_5), ((HB.out.cell (World.block_lt_of_cell? w _ hw223_0)).trans hw223_0), ((HB.out.cell (World.block_lt_of_cell? w _ hw223_1)).trans hw223_1), ((HB.out.cell (World.block_lt_of_cell? w _ hw223_2)).trans hw223_2), ((HB.out.cell (World.block_lt_of_cell? w _ hw223_3)).trans hw223_3), ((HB.out.cell (World.block_lt_of_cell? w _ hw223_4)).trans hw223_4), ((HB.out.cell (World.block_lt_of_cell? w _ hw223_5)).trans hw223_5), HS13_, HS14_⟩ (fun hHeld => ?_)
                     clear hK K
                     refine norm_ (a' := ?_) ?_ ?_
                     rotate_left
                     ·
                      show Act.put _ (some 80) _ = _
                      simp only [Act.put, sTA, sS0, sS1, i64_w, i32_w]
                      rfl
                     refine pure_ (i := 29) (N := some 81) (v := ?_) (a' := ?_) #[oT, oT, oT, oT, oT, oT, oT, oT, oT, oT, oT, oT, oT, oT, oT, oT, oT, oT, oT, oT, oT, oT, oT, oT, oT, oT, oT, oT, oT, oT, oF] rfl rfl (any_of HT_.out (by kernel_rfl)) (fun _ _ _ h => h) (Or.inl ⟨by rfl, ?_⟩) ?_ ?_
                     rotate_left
                     ·
                      intro w'
                      go_simp
                      with_reducible rfl
                     rotate_left
                     ·
                      simp only [Act.put, sTA, sS0, sS1, i64_w, i32_w]
                      rfl
                     refine pure_ (i := 30) (N := some 82) (v := ?_) (a' := ?_) #[oT, oT, oT, oT, oT, oT, oT, oT, oT, oT, oT, oT, oT, oT, oT, oT, oT, oT, oT, oT, oT, oT, oT, oT, oT, oT, oT, oT, oT, oT, oT] rfl rfl (any_of HT_.out (by kernel_rfl)) (fun _ _ _ h => h) (Or.inl ⟨by rfl, ?_⟩) ?_ ?_
                     rotate_left
                     ·
                      intro w'
                      go_simp
                      with_reducible rfl
                     rotate_left
                     ·
                      simp only [Act.put, sTA, sS0, sS1, i64_w, i32_w]
                      rfl
                     refine done_ (done_of HT_.out (by kernel_rfl)) ?_
                     try go_wp2
                     go_roundg k2
                     case measure => have := HK1.out; have := HK2.out; omega
                     case rel => exact ⟨(x10_2), (wrap64 (x10_2 + 1)), (by first | rfl | (simp; done) | (simp [*]; done)), (by first | rfl | (simp; done) | (simp [*]; done)), H', ⟨by have := HK1.out; have := HK2.out; omega⟩, ⟨by (with_reducible repeat (first | apply Kd.R_alloc | apply Kd.R_drewN | apply Kd.R_drew)); exact HO_4.out⟩, ⟨by (with_reducible repeat (first | apply Kd.R_alloc | apply Kd.R_drewN | apply Kd.R_drew)); exact HO_5.out⟩, ⟨by (with_reducible repeat (first | apply Kd.R_alloc | apply Kd.R_drewN | apply Kd.R_drew)); exact HO_6.out⟩, ⟨by (with_reducible repeat (first | apply Kd.R_alloc | apply Kd.R_drewN | apply Kd.R_drew)); exact HO_7.out⟩, ⟨by repeat (first | (with_reducible first | exact HB.out | apply below_alloc | apply pw_below_drewN | apply below_drew1) | exact HB.out)⟩⟩
                    ·
                     replace c32 := Bool.eq_false_iff.mpr c32
                     subst c32
                     have H1 : (casementref16_Order.l1 k2 l0 t206 t209 x6_1 x7_1 x8_1 x9_2 (wrap64 (x10_2 + 1))) = some (r1, r2) := by rw [if_neg (show ¬ (false = true) by decide)] at H; exact H
                     clear H
                     have H := H1
                     clear H1
                     have H' := Aside0.mk H
                     clear H
                     obtain ⟨Ao38, co38, eo38⟩ := Kd.R_slice HO_4.out
                     subst eo38
                     have p220 : 0 ≤ (x10_2 : Int) := of_decide_eq_true (by assumption)
                     have q220 : x10_2 < (t206.length : Int) := of_decide_eq_true (by assumption)
                     obtain ⟨ad220, e220, hx220_0⟩ := Kd.at_int (Kd.R_reads' HO_4.out).2.2 x10_2 p220 q220
                     cases e220
                     replace p220 := eq_true p220
                     replace q220 := eq_true q220
                     try go_wp2
                     have n0_ := Aside0.mk (Kd.R_drew HO_4.out)
                     have n1_ := Aside0.mk (Kd.R_drew HO_5.out)
                     have n2_ := Aside0.mk (Kd.R_drew HO_6.out)
                     have n3_ := Aside0.mk (Kd.R_drew HO_7.out)
                     have n4_ := Aside0.mk (below_drew1 HB.out)
                     clear HO_4
                     clear HO_5
                     clear HO_6
                     clear HO_7
                     clear HB
                     have HO_4 := n0_
                     have HO_5 := n1_
                     have HO_6 := n2_
                     have HO_7 := n3_
                     have HB := n4_
                     clear n0_ n1_ n2_ n3_ n4_
                     obtain ⟨Ao40, co40, eo40⟩ := Kd.R_slice HO_6.out
                     (first | subst eo40 | (injection eo40 with f1_ f2_ f3_; have f4_ := f1_.symm; have f5_ := f3_.symm; clear f1_ f2_ f3_; subst f4_; subst f5_))
                     have p221 : 0 ≤ (x10_2 : Int) := of_decide_eq_true (by assumption)
                     have q221 : x10_2 < (x6_1.length : Int) := of_decide_eq_true (by assumption)
                     obtain ⟨ad221, e221, hx221_0⟩ := Kd.at_bool (Kd.R_reads' HO_6.out).2.2 x10_2 p221 q221
                     (try rw [← Nbq18.out] at hx221_0)
                     cases e221
                     replace p221 := eq_true p221
                     replace q221 := eq_true q221
                     have p222 : 0 ≤ (x10_2 : Int) := of_decide_eq_true (by assumption)
                     have q222 : x10_2 < (l0.length : Int) := of_decide_eq_true (by assumption)
                     obtain ⟨ad222, e222, hx222_0, hx222_1, hx222_2, hx222_3, hx222_4, hx222_5⟩ := at_T38 HR0.out x10_2 p222 q222
                     have hw222_5 := hx222_5
                     have hw222_4 := hx222_4
                     have hw222_3 := hx222_3
                     have hw222_2 := hx222_2
                     have hw222_1 := hx222_1
                     have hw222_0 := hx222_0
                     (try rw [← Nbq18.out] at hx222_3)
                     (try rw [← Nbq18.out] at hw222_3)
                     cases e222
                     replace hx222_0 := (HB.out.cell (World.block_lt_of_cell? w _ hx222_0)).trans hx222_0
                     replace hx222_1 := (HB.out.cell (World.block_lt_of_cell? w _ hx222_1)).trans hx222_1
                     replace hx222_2 := (HB.out.cell (World.block_lt_of_cell? w _ hx222_2)).trans hx222_2
                     replace hx222_3 := (HB.out.cell (World.block_lt_of_cell? w _ hx222_3)).trans hx222_3
                     replace hx222_4 := (HB.out.cell (World.block_lt_of_cell? w _ hx222_4)).trans hx222_4
                     replace hx222_5 := (HB.out.cell (World.block_lt_of_cell? w _ hx222_5)).trans hx222_5
                     replace p222 := eq_true p222
                     replace q222 := eq_true q222
                     have p223 : 0 ≤ (x9_2 : Int) := of_decide_eq_true (by assumption)
                     have q223 : x9_2 < (l0.length : Int) := of_decide_eq_true (by assumption)
                     obtain ⟨ad223, e223, hx223_0, hx223_1, hx223_2, hx223_3, hx223_4, hx223_5⟩ := at_T38 HR0.out x9_2 p223 q223
                     have hw223_5 := hx223_5
                     have hw223_4 := hx223_4
                     have hw223_3 := hx223_3
                     have hw223_2 := hx223_2
                     have hw223_1 := hx223_1
                     have hw223_0 := hx223_0
                     (try rw [← Nbq18.out] at hx223_3)
                     (try rw [← Nbq18.out] at hw223_3)
                     obtain rfl : ad222 = ad223 := (by injection e223)
                     replace hx223_0 := (HB.out.cell (World.block_lt_of_cell? w _ hx223_0)).trans hx223_0
                     replace hx223_1 := (HB.out.cell (World.block_lt_of_cell? w _ hx223_1)).trans hx223_1
                     replace hx223_2 := (HB.out.cell (World.block_lt_of_cell? w _ hx223_2)).trans hx223_2
                     replace hx223_3 := (HB.out.cell (World.block_lt_of_cell? w _ hx223_3)).trans hx223_3
                     replace hx223_4 := (HB.out.cell (World.block_lt_of_cell? w _ hx223_4)).trans hx223_4
                     replace hx223_5 := (HB.out.cell (World.block_lt_of_cell? w _ hx223_5)).trans hx223_5
                     replace p223 := eq_true p223
                     replace q223 := eq_true q223
                     obtain ⟨Ao41, co41, eo41⟩ := Kd.R_slice HO_5.out
                     (first | subst eo41 | (injection eo41 with f1_ f2_ f3_; have f4_ := f1_.symm; have f5_ := f3_.symm; clear f1_ f2_ f3_; subst f4_; subst f5_))
                     have p224 : 0 ≤ (x10_2 : Int) := of_decide_eq_true (by assumption)
                     have q224 : x10_2 < (t209.length : Int) := of_decide_eq_true (by assumption)
                     obtain ⟨ad224, e224, hx224_0⟩ := Kd.at_int (Kd.R_reads' HO_5.out).2.2 x10_2 p224 q224
                     cases e224
                     replace p224 := eq_true p224
                     replace q224 := eq_true q224
                     have p225 : 0 ≤ (x9_2 : Int) := of_decide_eq_true (by assumption)
                     have q225 : x9_2 < (t209.length : Int) := of_decide_eq_true (by assumption)
                     obtain ⟨ad225, e225, hx225_0⟩ := Kd.at_int (Kd.R_reads' HO_5.out).2.2 x9_2 p225 q225
                     obtain rfl : ad224 = ad225 := (by injection e225)
                     replace p225 := eq_true p225
                     replace q225 := eq_true q225
                     refine start_ (n := 31) (S := fun w' => w'.cell? (ad221.add (x10_2).toNat) = some (.bool false) ∧ w'.cell? (ad222.add ((x10_2).toNat * 6)) = some (.int .i64 ((rd_T38 l0 x10_2).f0)) ∧ w'.cell? ⟨(ad222.add ((x10_2).toNat * 6)).block, (ad222.add ((x10_2).toNat * 6)).off + 1, none⟩ = some (.int .i64 ((rd_T38 l0 x10_2).f1)) ∧ w'.cell? ⟨(ad222.add ((x10_2).toNat * 6)).block, (ad222.add ((x10_2).toNat * 6)).off + 2, none⟩ = some (.int .i64 ((rd_T38 l0 x10_2).f2)) ∧ w'.cell? ⟨(ad222.add ((x10_2).toNat * 6)).block, (ad222.add ((x10_2).toNat * 6)).off + 3, none⟩ = some (.bool ((rd_T38 l0 x10_2).f3)) ∧ w'.cell? ⟨(ad222.add ((x10_2).toNat * 6)).block, (ad222.add ((x10_2).toNat * 6)).off + 4, none⟩ = some (.int .i64 ((rd_T38 l0 x10_2).f4)) ∧ w'.cell? ⟨(ad222.add ((x10_2).toNat * 6)).block, (ad222.add ((x10_2).toNat * 6)).off + 5, none⟩ = some (.int .i64 ((rd_T38 l0 x10_2).f5)) ∧ w'.cell? (ad222.add ((x9_2).toNat * 6)) = some (.int .i64 ((rd_T38 l0 x9_2).f0)) ∧ w'.cell? ⟨(ad222.add ((x9_2).toNat * 6)).block, (ad222.add ((x9_2).toNat * 6)).off + 1, none⟩ = some (.int .i64 ((rd_T38 l0 x9_2).f1)) ∧ w'.cell? ⟨(ad222.add ((x9_2).toNat * 6)).block, (ad222.add ((x9_2).toNat * 6)).off + 2, none⟩ = some (.int .i64 ((rd_T38 l0 x9_2).f2)) ∧ w'.cell? ⟨(ad222.add ((x9_2).toNat * 6)).block, (ad222.add ((x9_2).toNat * 6)).off + 3, none⟩ = some (.bool ((rd_T38 l0 x9_2).f3)) ∧ w'.cell? ⟨(ad222.add ((x9_2).toNat * 6)).block, (ad222.add ((x9_2).toNat * 6)).off + 4, none⟩ = some (.int .i64 ((rd_T38 l0 x9_2).f4)) ∧ w'.cell? ⟨(ad222.add ((x9_2).toNat * 6)).block, (ad222.add ((x9_2).toNat * 6)).off + 5, none⟩ = some (.int .i64 ((rd_T38 l0 x9_2).f5)) ∧ w'.cell? (ad224.add (x10_2).toNat) = some (.int .i64 (rd t209 x10_2)) ∧ w'.cell? (ad224.add (x9_2).toNat) = some (.int .i64 (rd t209 x9_2))) (ds := []) #[oF, oF, oF, oF, oF, oF, oF, oF, oF, oF, oF, oF, oF, oF, oF, oF, oF, oF, oF, oF, oF, oF, oF, oF, oF, oF, oF, oF, oF, oF, oF] (by kernel_rfl) rfl rfl ⟨hx221_0, ((HB.out.cell (World.block_lt_of_cell? w _ hw222_0)).trans hw222_0), ((HB.out.cell (World.block_lt_of_cell? w _ hw222_1)).trans hw222_1), ((HB.out.cell (World.block_lt_of_cell? w _ hw222_2)).trans hw222_2), ((HB.out.cell (World.block_lt_of_cell? w _ hw222_3)).trans hw222_3), ((HB.out.cell (World.block_lt_of_cell? w _ hw222_4)).trans hw222_4), ((HB.out.cell (World.block_lt_of_cell? w _ hw222_5)).trans hw222_5), ((HB.out.cell (World.block_lt_of_cell? w _ hw223_0)).trans hw223_0), ((HB.out.cell (World.block_lt_of_cell? w _ hw223_1)).trans hw223_1), ((HB.out.cell (World.block_lt_of_cell? w _ hw223_2)).trans hw223_2), ((HB.out.cell (World.block_lt_of_cell? w _ hw223_3)).trans hw223_3), ((HB.out.cell (World.block_lt_of_cell? w _ hw223_4)).trans hw223_4), ((HB.out.cell (World.block_lt_of_cell? w _ hw223_5)).trans hw223_5), hx224_0, hx225_0⟩ (fun hHeld => ?_); refine with_tabW casementref16_Order.tab14 casementref16_Order.bits14 (fun HT_ HW_ => ?_)
                     generalize wr.drew = w39 at HO_4 HO_5 HO_6 HO_7 HB hx221_0 hx222_0 hx222_1 hx222_2 hx222_3 hx222_4 hx222_5 hx223_0 hx223_1 hx223_2 hx223_3 hx223_4 hx223_5 hx224_0 hx225_0 hHeld ⊢
                     refine pure_ (i := 0) (N := some 52) (v := ?_) (a' := ?_) #[oT, oF, oF, oF, oF, oF, oF, oF, oF, oF, oF, oF, oF, oF, oF, oF, oF, oF, oF, oF, oF, oF, oF, oF, oF, oF, oF, oF, oF, oF, oF] rfl rfl (any_of HT_.out (by kernel_rfl)) (fun _ _ _ h => h) (Or.inl ⟨by rfl, ?_⟩) ?_ ?_
                     rotate_left
                     ·
                      intro w'
                      go_simp
                      with_reducible rfl
                     rotate_left
                     ·
                      simp only [Act.put, sTA, sS0, sS1, i64_w, i32_w]
                      rfl
                     refine pure_ (i := 1) (N := some 53) (v := ?_) (a' := ?_) #[oT, oT, oF, oF, oF, oF, oF, oF, oF, oF, oF, oF, oF, oF, oF, oF, oF, oF, oF, oF, oF, oF, oF, oF, oF, oF, oF, oF, oF, oF, oF] rfl rfl (any_of HT_.out (by kernel_rfl)) (fun _ _ _ h => h) (Or.inl ⟨by rfl, ?_⟩) ?_ ?_
                     rotate_left
                     ·
                      intro w'
                      go_simp
                      with_reducible rfl
                     rotate_left
                     ·
                      simp only [Act.put, sTA, sS0, sS1, i64_w, i32_w]
                      rfl
                     refine pure_ (i := 2) (N := some 54) (v := ?_) (a' := ?_) #[oT, oT, oT, oF, oF, oF, oF, oF, oF, oF, oF, oF, oF, oF, oF, oF, oF, oF, oF, oF, oF, oF, oF, oF, oF, oF, oF, oF, oF, oF, oF] rfl rfl (any_of HT_.out (by kernel_rfl)) (fun _ _ _ h => h) (Or.inl ⟨by rfl, ?_⟩) ?_ ?_
                     rotate_left
                     ·
                      intro w'
                      go_simp
                      with_reducible rfl
                     rotate_left
                     ·
                      simp only [Act.put, sTA, sS0, sS1, i64_w, i32_w]
                      rfl
                     refine take_ (i := 3) (N := some 55) (v := ?_) (a' := ?_) #[oT, oT, oT, oT, oF, oF, oF, oF, oF, oF, oF, oF, oF, oF, oF, oF, oF, oF, oF, oF, oF, oF, oF, oF, oF, oF, oF, oF, oF, oF, oF] rfl rfl (take_ofW HT_.out HW_.out (by kernel_rfl)) (fun _ _ _ h => h) (Or.inl ⟨by rfl, ?_⟩) hHeld ?_ ?_
                     rotate_left
                     ·
                      rintro w' ⟨s0, s1, s2, s3, s4, s5, s6, s7, s8, s9, s10, s11, s12, s13, s14⟩
                      go_simp
                      with_reducible rfl
                     rotate_left
                     ·
                      simp only [Act.put, sTA, sS0, sS1, i64_w, i32_w]
                      rfl
                     refine pure_ (i := 4) (N := some 56) (v := ?_) (a' := ?_) #[oT, oT, oT, oT, oT, oF, oF, oF, oF, oF, oF, oF, oF, oF, oF, oF, oF, oF, oF, oF, oF, oF, oF, oF, oF, oF, oF, oF, oF, oF, oF] rfl rfl (any_of HT_.out (by kernel_rfl)) (fun _ _ _ h => h) (Or.inl ⟨by rfl, ?_⟩) ?_ ?_
                     rotate_left
                     ·
                      intro w'
                      go_simp
                      with_reducible rfl
                     rotate_left
                     ·
                      simp only [Act.put, sTA, sS0, sS1, i64_w, i32_w]
                      rfl
                     refine pure_ (i := 5) (N := some 57) (v := ?_) (a' := ?_) #[oT, oT, oT, oT, oT, oT, oF, oF, oF, oF, oF, oF, oF, oF, oF, oF, oF, oF, oF, oF, oF, oF, oF, oF, oF, oF, oF, oF, oF, oF, oF] rfl rfl (any_of HT_.out (by kernel_rfl)) (fun _ _ _ h => h) (Or.inl ⟨by rfl, ?_⟩) ?_ ?_
                     rotate_left
                     ·
                      intro w'
                      go_simp
                      with_reducible rfl
                     rotate_left
                     ·
                      simp only [Act.put, sTA, sS0, sS1, i64_w, i32_w]
                      rfl
                     refine pure_ (i := 6) (N := some 58) (v := ?_) (a' := ?_) #[oT, oT, oT, oT, oT, oT, oT, oF, oF, oF, oF, oF, oF, oF, oF, oF, oF, oF, oF, oF, oF, oF, oF, oF, oF, oF, oF, oF, oF, oF, oF] rfl rfl (any_of HT_.out (by kernel_rfl)) (fun _ _ _ h => h) (Or.inl ⟨by rfl, ?_⟩) ?_ ?_
                     rotate_left
                     ·
                      intro w'
                      go_simp
                      with_reducible rfl
                     rotate_left
                     ·
                      simp only [Act.put, sTA, sS0, sS1, i64_w, i32_w]
                      rfl
                     refine pure_ (i := 7) (N := some 59) (v := ?_) (a' := ?_) #[oT, oT, oT, oT, oT, oT, oT, oT, oF, oF, oF, oF, oF, oF, oF, oF, oF, oF, oF, oF, oF, oF, oF, oF, oF, oF, oF, oF, oF, oF, oF] rfl rfl (any_of HT_.out (by kernel_rfl)) (fun _ _ _ h => h) (Or.inl ⟨by rfl, ?_⟩) ?_ ?_
                     rotate_left
                     ·
                      intro w'
                      go_simp
                      with_reducible rfl
                     rotate_left
                     ·
                      simp only [Act.put, sTA, sS0, sS1, i64_w, i32_w]
                      rfl
                     refine pure_ (i := 8) (N := some 60) (v := ?_) (a' := ?_) #[oT, oT, oT, oT, oT, oT, oT, oT, oT, oF, oF, oF, oF, oF, oF, oF, oF, oF, oF, oF, oF, oF, oF, oF, oF, oF, oF, oF, oF, oF, oF] rfl rfl (any_of HT_.out (by kernel_rfl)) (fun _ _ _ h => h) (Or.inl ⟨by rfl, ?_⟩) ?_ ?_
                     rotate_left
                     ·
                      intro w'
                      go_simp
                      with_reducible rfl
                     rotate_left
                     ·
                      simp only [Act.put, sTA, sS0, sS1, i64_w, i32_w]
                      rfl
                     refine pure_ (i := 9) (N := some 61) (v := ?_) (a' := ?_) #[oT, oT, oT, oT, oT, oT, oT, oT, oT, oT, oF, oF, oF, oF, oF, oF, oF, oF, oF, oF, oF, oF, oF, oF, oF, oF, oF, oF, oF, oF, oF] rfl rfl (any_of HT_.out (by kernel_rfl)) (fun _ _ _ h => h) (Or.inl ⟨by rfl, ?_⟩) ?_ ?_
                     rotate_left
                     ·
                      intro w'
                      go_simp
                      with_reducible rfl
                     rotate_left
                     ·
                      simp only [Act.put, sTA, sS0, sS1, i64_w, i32_w]
                      rfl
                     refine pure_ (i := 10) (N := some 62) (v := ?_) (a' := ?_) #[oT, oT, oT, oT, oT, oT, oT, oT, oT, oT, oT, oF, oF, oF, oF, oF, oF, oF, oF, oF, oF, oF, oF, oF, oF, oF, oF, oF, oF, oF, oF] rfl rfl (any_of HT_.out (by kernel_rfl)) (fun _ _ _ h => h) (Or.inl ⟨by rfl, ?_⟩) ?_ ?_
                     rotate_left
                     ·
                      intro w'
                      go_simp
                      with_reducible rfl
                     rotate_left
                     ·
                      simp only [Act.put, sTA, sS0, sS1, i64_w, i32_w]
                      rfl
                     refine pure_ (i := 11) (N := some 63) (v := ?_) (a' := ?_) #[oT, oT, oT, oT, oT, oT, oT, oT, oT, oT, oT, oT, oF, oF, oF, oF, oF, oF, oF, oF, oF, oF, oF, oF, oF, oF, oF, oF, oF, oF, oF] rfl rfl (any_of HT_.out (by kernel_rfl)) (fun _ _ _ h => h) (Or.inl ⟨by rfl, ?_⟩) ?_ ?_
                     rotate_left
                     ·
                      intro w'
                      go_simp
                      with_reducible rfl
                     rotate_left
                     ·
                      simp only [Act.put, sTA, sS0, sS1, i64_w, i32_w]
                      rfl
                     refine pure_ (i := 12) (N := some 64) (v := ?_) (a' := ?_) #[oT, oT, oT, oT, oT, oT, oT, oT, oT, oT, oT, oT, oT, oF, oF, oF, oF, oF, oF, oF, oF, oF, oF, oF, oF, oF, oF, oF, oF, oF, oF] rfl rfl (any_of HT_.out (by kernel_rfl)) (fun _ _ _ h => h) (Or.inl ⟨by rfl, ?_⟩) ?_ ?_
                     rotate_left
                     ·
                      intro w'
                      go_simp
                      with_reducible rfl
                     rotate_left
                     ·
                      simp only [Act.put, sTA, sS0, sS1, i64_w, i32_w]
                      rfl
                     refine pure_ (i := 13) (N := some 65) (v := ?_) (a' := ?_) #[oT, oT, oT, oT, oT, oT, oT, oT, oT, oT, oT, oT, oT, oT, oF, oF, oF, oF, oF, oF, oF, oF, oF, oF, oF, oF, oF, oF, oF, oF, oF] rfl rfl (any_of HT_.out (by kernel_rfl)) (fun _ _ _ h => h) (Or.inl ⟨by rfl, ?_⟩) ?_ ?_
                     rotate_left
                     ·
                      intro w'
                      go_simp
                      with_reducible rfl
                     rotate_left
                     ·
                      simp only [Act.put, sTA, sS0, sS1, i64_w, i32_w]
                      rfl
                     refine pure_ (i := 14) (N := some 66) (v := ?_) (a' := ?_) #[oT, oT, oT, oT, oT, oT, oT, oT, oT, oT, oT, oT, oT, oT, oT, oF, oF, oF, oF, oF, oF, oF, oF, oF, oF, oF, oF, oF, oF, oF, oF] rfl rfl (any_of HT_.out (by kernel_rfl)) (fun _ _ _ h => h) (Or.inl ⟨by rfl, ?_⟩) ?_ ?_
                     rotate_left
                     ·
                      intro w'
                      go_simp
                      with_reducible rfl
                     rotate_left
                     ·
                      simp only [Act.put, sTA, sS0, sS1, i64_w, i32_w]
                      rfl
                     refine pure_ (i := 16) (N := some 68) (v := ?_) (a' := ?_) #[oT, oT, oT, oT, oT, oT, oT, oT, oT, oT, oT, oT, oT, oT, oT, oF, oT, oF, oF, oF, oF, oF, oF, oF, oF, oF, oF, oF, oF, oF, oF] rfl rfl (any_of HT_.out (by kernel_rfl)) (fun _ _ _ h => h) (Or.inl ⟨by rfl, ?_⟩) ?_ ?_
                     rotate_left
                     ·
                      intro w'
                      go_simp
                      with_reducible rfl
                     rotate_left
                     ·
                      simp only [Act.put, sTA, sS0, sS1, i64_w, i32_w]
                      rfl
                     refine pure_ (i := 17) (N := some 69) (v := ?_) (a' := ?_) #[oT, oT, oT, oT, oT, oT, oT, oT, oT, oT, oT, oT, oT, oT, oT, oF, oT, oT, oF, oF, oF, oF, oF, oF, oF, oF, oF, oF, oF, oF, oF] rfl rfl (any_of HT_.out (by kernel_rfl)) (fun _ _ _ h => h) (Or.inl ⟨by rfl, ?_⟩) ?_ ?_
                     rotate_left
                     ·
                      intro w'
                      go_simp
                      with_reducible rfl
                     rotate_left
                     ·
                      simp only [Act.put, sTA, sS0, sS1, i64_w, i32_w]
                      rfl
                     refine pure_ (i := 18) (N := some 70) (v := ?_) (a' := ?_) #[oT, oT, oT, oT, oT, oT, oT, oT, oT, oT, oT, oT, oT, oT, oT, oF, oT, oT, oT, oF, oF, oF, oF, oF, oF, oF, oF, oF, oF, oF, oF] rfl rfl (any_of HT_.out (by kernel_rfl)) (fun _ _ _ h => h) (Or.inl ⟨by rfl, ?_⟩) ?_ ?_
                     rotate_left
                     ·
                      intro w'
                      go_simp
                      with_reducible rfl
                     rotate_left
                     ·
                      simp only [Act.put, sTA, sS0, sS1, i64_w, i32_w]
                      rfl
                     refine pure_ (i := 20) (N := some 72) (v := ?_) (a' := ?_) #[oT, oT, oT, oT, oT, oT, oT, oT, oT, oT, oT, oT, oT, oT, oT, oF, oT, oT, oT, oF, oT, oF, oF, oF, oF, oF, oF, oF, oF, oF, oF] rfl rfl (any_of HT_.out (by kernel_rfl)) (fun _ _ _ h => h) (Or.inl ⟨by rfl, ?_⟩) ?_ ?_
                     rotate_left
                     ·
                      intro w'
                      go_simp
                      with_reducible rfl
                     rotate_left
                     ·
                      simp only [Act.put, sTA, sS0, sS1, i64_w, i32_w]
                      rfl
                     refine pure_ (i := 21) (N := some 73) (v := ?_) (a' := ?_) #[oT, oT, oT, oT, oT, oT, oT, oT, oT, oT, oT, oT, oT, oT, oT, oF, oT, oT, oT, oF, oT, oT, oF, oF, oF, oF, oF, oF, oF, oF, oF] rfl rfl (any_of HT_.out (by kernel_rfl)) (fun _ _ _ h => h) (Or.inl ⟨by rfl, ?_⟩) ?_ ?_
                     rotate_left
                     ·
                      intro w'
                      go_simp
                      with_reducible rfl
                     rotate_left
                     ·
                      simp only [Act.put, sTA, sS0, sS1, i64_w, i32_w]
                      rfl
                     refine pure_ (i := 22) (N := some 74) (v := ?_) (a' := ?_) #[oT, oT, oT, oT, oT, oT, oT, oT, oT, oT, oT, oT, oT, oT, oT, oF, oT, oT, oT, oF, oT, oT, oT, oF, oF, oF, oF, oF, oF, oF, oF] rfl rfl (any_of HT_.out (by kernel_rfl)) (fun _ _ _ h => h) (Or.inl ⟨by rfl, ?_⟩) ?_ ?_
                     rotate_left
                     ·
                      intro w'
                      go_simp
                      with_reducible rfl
                     rotate_left
                     ·
                      simp only [Act.put, sTA, sS0, sS1, i64_w, i32_w]
                      rfl
                     refine pure_ (i := 24) (N := some 76) (v := ?_) (a' := ?_) #[oT, oT, oT, oT, oT, oT, oT, oT, oT, oT, oT, oT, oT, oT, oT, oF, oT, oT, oT, oF, oT, oT, oT, oF, oT, oF, oF, oF, oF, oF, oF] rfl rfl (any_of HT_.out (by kernel_rfl)) (fun _ _ _ h => h) (Or.inl ⟨by rfl, ?_⟩) ?_ ?_
                     rotate_left
                     ·
                      intro w'
                      go_simp
                      with_reducible rfl
                     rotate_left
                     ·
                      simp only [Act.put, sTA, sS0, sS1, i64_w, i32_w]
                      rfl
                     refine pure_ (i := 25) (N := some 77) (v := ?_) (a' := ?_) #[oT, oT, oT, oT, oT, oT, oT, oT, oT, oT, oT, oT, oT, oT, oT, oF, oT, oT, oT, oF, oT, oT, oT, oF, oT, oT, oF, oF, oF, oF, oF] rfl rfl (any_of HT_.out (by kernel_rfl)) (fun _ _ _ h => h) (Or.inl ⟨by rfl, ?_⟩) ?_ ?_
                     rotate_left
                     ·
                      intro w'
                      go_simp
                      with_reducible rfl
                     rotate_left
                     ·
                      simp only [Act.put, sTA, sS0, sS1, i64_w, i32_w]
                      rfl
                     refine pure_ (i := 26) (N := some 78) (v := ?_) (a' := ?_) #[oT, oT, oT, oT, oT, oT, oT, oT, oT, oT, oT, oT, oT, oT, oT, oF, oT, oT, oT, oF, oT, oT, oT, oF, oT, oT, oT, oF, oF, oF, oF] rfl rfl (any_of HT_.out (by kernel_rfl)) (fun _ _ _ h => h) (Or.inl ⟨by rfl, ?_⟩) ?_ ?_
                     rotate_left
                     ·
                      intro w'
                      go_simp
                      with_reducible rfl
                     rotate_left
                     ·
                      simp only [Act.put, sTA, sS0, sS1, i64_w, i32_w]
                      rfl
                     refine take_ (i := 15) (N := some 67) (v := ?_) (a' := ?_) #[oT, oT, oT, oT, oT, oT, oT, oT, oT, oT, oT, oT, oT, oT, oT, oT, oT, oT, oT, oF, oT, oT, oT, oF, oT, oT, oT, oF, oF, oF, oF] rfl rfl (take_ofW HT_.out HW_.out (by kernel_rfl)) (fun _ _ _ h => h) (Or.inl ⟨by rfl, ?_⟩) hHeld ?_ ?_
                     rotate_left
                     ·
                      rintro w' ⟨s0, s1, s2, s3, s4, s5, s6, s7, s8, s9, s10, s11, s12, s13, s14⟩
                      go_simp
                      with_reducible rfl
                     rotate_left
                     ·
                      simp only [Act.put, sTA, sS0, sS1, i64_w, i32_w]
                      rfl
                     refine take_ (i := 19) (N := some 71) (v := ?_) (a' := ?_) #[oT, oT, oT, oT, oT, oT, oT, oT, oT, oT, oT, oT, oT, oT, oT, oT, oT, oT, oT, oT, oT, oT, oT, oF, oT, oT, oT, oF, oF, oF, oF] rfl rfl (take_ofW HT_.out HW_.out (by kernel_rfl)) (fun _ _ _ h => h) (Or.inl ⟨by rfl, ?_⟩) hHeld ?_ ?_
                     rotate_left
                     ·
                      rintro w' ⟨s0, s1, s2, s3, s4, s5, s6, s7, s8, s9, s10, s11, s12, s13, s14⟩
                      go_simp
                      with_reducible rfl
                     rotate_left
                     ·
                      simp only [Act.put, sTA, sS0, sS1, i64_w, i32_w]
                      rfl
                     refine take_ (i := 23) (N := some 75) (v := ?_) (a' := ?_) #[oT, oT, oT, oT, oT, oT, oT, oT, oT, oT, oT, oT, oT, oT, oT, oT, oT, oT, oT, oT, oT, oT, oT, oT, oT, oT, oT, oF, oF, oF, oF] rfl rfl (take_ofW HT_.out HW_.out (by kernel_rfl)) (fun _ _ _ h => h) (Or.inl ⟨by rfl, ?_⟩) hHeld ?_ ?_
                     rotate_left
                     ·
                      rintro w' ⟨s0, s1, s2, s3, s4, s5, s6, s7, s8, s9, s10, s11, s12, s13, s14⟩
                      go_simp
                      with_reducible rfl
                     rotate_left
                     ·
                      simp only [Act.put, sTA, sS0, sS1, i64_w, i32_w]
                      rfl
                     refine take_ (i := 27) (N := some 79) (v := ?_) (a' := ?_) #[oT, oT, oT, oT, oT, oT, oT, oT, oT, oT, oT, oT, oT, oT, oT, oT, oT, oT, oT, oT, oT, oT, oT, oT, oT, oT, oT, oT, oF, oF, oF] rfl rfl (take_ofW HT_.out HW_.out (by kernel_rfl)) (fun _ _ _ h => h) (Or.inl ⟨by rfl, ?_⟩) hHeld ?_ ?_
                     rotate_left
                     ·
                      rintro w' ⟨s0, s1, s2, s3, s4, s5, s6, s7, s8, s9, s10, s11, s12, s13, s14⟩
                      go_simp
                      with_reducible rfl
                     rotate_left
                     ·
                      simp only [Act.put, sTA, sS0, sS1, i64_w, i32_w]
                      rfl
                     refine one_ (i := 28) (N := some 80) #[oT, oT, oT, oT, oT, oT, oT, oT, oT, oT, oT, oT, oT, oT, oT, oT, oT, oT, oT, oT, oT, oT, oT, oT, oT, oT, oT, oT, oT, oF, oF] rfl rfl (one_of HT_.out (by kernel_rfl)) (by decide) (fun K hK => ?_)
                     refine goes_ Try.func34 (by kernel_rfl) rfl #[.agg #[.int .i64 ((rd_T38 l0 x10_2).f0), .int .i64 ((rd_T38 l0 x10_2).f1), .int .i64 ((rd_T38 l0 x10_2).f2), .bool ((rd_T38 l0 x10_2).f3), .int .i64 ((rd_T38 l0 x10_2).f4), .int .i64 ((rd_T38 l0 x10_2).f5)], .agg #[.int .i64 ((rd_T38 l0 x9_2).f0), .int .i64 ((rd_T38 l0 x9_2).f1), .int .i64 ((rd_T38 l0 x9_2).f2), .bool ((rd_T38 l0 x9_2).f3), .int .i64 ((rd_T38 l0 x9_2).f4), .int .i64 ((rd_T38 l0 x9_2).f5)], .int .i64 (rd t209 x10_2), .int .i64 (rd t209 x9_2)] (by rfl) rfl rfl (by (try simp only [List.map_toArray, List.map_cons, List.map_nil]); first | done | rfl | (simp only [List.length_drop, List.length_take]; rfl)) ?_
                     with_reducible refine (casementref16_lower.calls ((rd_T38 l0 x10_2).f0) ((rd_T38 l0 x10_2).f1) ((rd_T38 l0 x10_2).f2) ((rd_T38 l0 x10_2).f3) ((rd_T38 l0 x10_2).f4) ((rd_T38 l0 x10_2).f5) ((rd_T38 l0 x9_2).f0) ((rd_T38 l0 x9_2).f1) ((rd_T38 l0 x9_2).f2) ((rd_T38 l0 x9_2).f3) ((rd_T38 l0 x9_2).f4) ((rd_T38 l0 x9_2).f5) (rd t209 x10_2) (rd t209 x9_2) false _ A31.out).mono ?_
                     rintro e w42 ⟨rfl, hb⟩
                     have HS0_ := (hb.cell (World.block_lt_of_cell? _ _ (hHeld.1))).trans (hHeld.1)
                     have HS13_ := (hb.cell (World.block_lt_of_cell? _ _ (hHeld.2.2.2.2.2.2.2.2.2.2.2.2.2.1))).trans (hHeld.2.2.2.2.2.2.2.2.2.2.2.2.2.1)
                     have HS14_ := (hb.cell (World.block_lt_of_cell? _ _ (hHeld.2.2.2.2.2.2.2.2.2.2.2.2.2.2))).trans (hHeld.2.2.2.2.2.2.2.2.2.2.2.2.2.2)
                     refine ⟨_, rfl, ?_⟩
                     have n0_ := Aside0.mk (Kd.R_below (by (with_reducible repeat (first | apply Kd.R_alloc | apply Kd.R_drewN | apply Kd.R_drew)); exact HO_4.out) hb)
                     have n1_ := Aside0.mk (Kd.R_below (by (with_reducible repeat (first | apply Kd.R_alloc | apply Kd.R_drewN | apply Kd.R_drew)); exact HO_5.out) hb)
                     have n2_ := Aside0.mk (Kd.R_below (by (with_reducible repeat (first | apply Kd.R_alloc | apply Kd.R_drewN | apply Kd.R_drew)); exact HO_6.out) hb)
                     have n3_ := Aside0.mk (Kd.R_below (by (with_reducible repeat (first | apply Kd.R_alloc | apply Kd.R_drewN | apply Kd.R_drew)); exact HO_7.out) hb)
                     have n4_ := Aside0.mk (below_step (by repeat (first | (with_reducible first | exact HB.out | apply below_alloc | apply pw_below_drewN | apply below_drew1) | exact HB.out)) hb)
                     clear HO_4
                     clear HO_5
                     clear HO_6
                     clear HO_7
                     clear HB
                     have HO_4 := n0_
                     have HO_5 := n1_
                     have HO_6 := n2_
                     have HO_7 := n3_
                     have HB := n4_
                     clear n0_ n1_ n2_ n3_ n4_
                     (try clear hb)
                     (try clear hb2)
                     (try clear hk)
                     (try clear hi)
                     refine hK.out _ _ ⟨HS0_, ((HB.out.cell (World.block_lt_of_cell? w _ hw222_0)).trans hw222_0), ((HB.out.cell (World.block_lt_of_cell? w _ hw222_1)).trans hw222_1), ((HB.out.cell (World.block_lt_of_cell? w _ hw222_2)).trans hw222_2), ((HB.out.cell (World.block_lt_of_cell? w _ hw222_3)).trans hw222_3), ((HB.out.cell (World.block_lt_of_cell? w _ hw222_4)).trans hw222_4), ((HB.out.cell (World.block_lt_of_cell? w _ hw222_5)).trans hw222_5), ((HB.out.cell (World.block_lt_of_cell? w _ hw223_0)).trans hw223_0), ((HB.out.cell (World.block_lt_of_cell? w _ hw223_1)).trans hw223_1), ((HB.out.cell (World.block_lt_of_cell? w _ hw223_2)).trans hw223_2), ((HB.out.cell (World.block_lt_of_cell? w _ hw223_3)).trans hw223_3), ((HB.out.cell (World.block_lt_of_cell? w _ hw223_4)).trans hw223_4), ((HB.out.cell (World.block_lt_of_cell? w _ hw223_5)).trans hw223_5), HS13_, HS14_⟩ (fun hHeld => ?_)
                     clear hK K
                     refine norm_ (a' := ?_) ?_ ?_
                     rotate_left
                     ·
                      show Act.put _ (some 80) _ = _
                      simp only [Act.put, sTA, sS0, sS1, i64_w, i32_w]
                      rfl
                     refine pure_ (i := 29) (N := some 81) (v := ?_) (a' := ?_) #[oT, oT, oT, oT, oT, oT, oT, oT, oT, oT, oT, oT, oT, oT, oT, oT, oT, oT, oT, oT, oT, oT, oT, oT, oT, oT, oT, oT, oT, oT, oF] rfl rfl (any_of HT_.out (by kernel_rfl)) (fun _ _ _ h => h) (Or.inl ⟨by rfl, ?_⟩) ?_ ?_
                     rotate_left
                     ·
                      intro w'
                      go_simp
                      with_reducible rfl
                     rotate_left
                     ·
                      simp only [Act.put, sTA, sS0, sS1, i64_w, i32_w]
                      rfl
                     refine pure_ (i := 30) (N := some 82) (v := ?_) (a' := ?_) #[oT, oT, oT, oT, oT, oT, oT, oT, oT, oT, oT, oT, oT, oT, oT, oT, oT, oT, oT, oT, oT, oT, oT, oT, oT, oT, oT, oT, oT, oT, oT] rfl rfl (any_of HT_.out (by kernel_rfl)) (fun _ _ _ h => h) (Or.inl ⟨by rfl, ?_⟩) ?_ ?_
                     rotate_left
                     ·
                      intro w'
                      go_simp
                      with_reducible rfl
                     rotate_left
                     ·
                      simp only [Act.put, sTA, sS0, sS1, i64_w, i32_w]
                      rfl
                     refine done_ (done_of HT_.out (by kernel_rfl)) ?_
                     try go_wp2
                     go_roundg k2
                     case measure => have := HK1.out; have := HK2.out; omega
                     case rel => exact ⟨(x9_2), (wrap64 (x10_2 + 1)), (by first | rfl | (simp; done) | (simp [*]; done)), (by first | rfl | (simp; done) | (simp [*]; done)), H', ⟨by have := HK1.out; have := HK2.out; omega⟩, ⟨by (with_reducible repeat (first | apply Kd.R_alloc | apply Kd.R_drewN | apply Kd.R_drew)); exact HO_4.out⟩, ⟨by (with_reducible repeat (first | apply Kd.R_alloc | apply Kd.R_drewN | apply Kd.R_drew)); exact HO_5.out⟩, ⟨by (with_reducible repeat (first | apply Kd.R_alloc | apply Kd.R_drewN | apply Kd.R_drew)); exact HO_6.out⟩, ⟨by (with_reducible repeat (first | apply Kd.R_alloc | apply Kd.R_drewN | apply Kd.R_drew)); exact HO_7.out⟩, ⟨by repeat (first | (with_reducible first | exact HB.out | apply below_alloc | apply pw_below_drewN | apply below_drew1) | exact HB.out)⟩⟩
                   ·
                    rw [if_neg c30] at H
                    exact absurd H (by simp)
                  ·
                   rw [if_neg c29] at H
                   exact absurd H (by simp)
                 ·
                  rw [if_neg c28] at H
                  exact absurd H (by simp)
                ·
                 rw [if_neg c27] at H
                 exact absurd H (by simp)
             ·
              rw [if_neg c17] at H
              exact absurd H (by simp)
            ·
             rw [if_neg c16] at H
             have c16b0 : ((rd t206 x10_2) == 0) = false := beq_eq_false_iff_ne.mpr c16
             have c16b1 : ((rd t206 x10_2) != 0) = true := bne_iff_ne.mpr c16
             replace H := Option.bind_eq_some_iff.mp H
             obtain ⟨t228, A430, H⟩ := H
             replace H : (if 0 ≤ t228 then (if t228 < (x6_1.length : Int) then (if x10_2 < (x6_1.length : Int) then (if rdOf false x6_1 x10_2 = true then (casementref16_Order.l1 k2 l0 t206 t209 x6_1 x7_1 x8_1 x9_2 (wrap64 (x10_2 + 1))) else (if rdOf false x6_1 t228 = true then (if x9_2 < 0 then (casementref16_Order.l1 k2 l0 t206 t209 x6_1 x7_1 x8_1 x10_2 (wrap64 (x10_2 + 1))) else (if 0 ≤ x9_2 then (if x9_2 < (l0.length : Int) then (if x10_2 < (t209.length : Int) then (if x9_2 < (t209.length : Int) then ((casementref16_lower.f ((rd_T38 l0 x10_2).f0) ((rd_T38 l0 x10_2).f1) ((rd_T38 l0 x10_2).f2) ((rd_T38 l0 x10_2).f3) ((rd_T38 l0 x10_2).f4) ((rd_T38 l0 x10_2).f5) ((rd_T38 l0 x9_2).f0) ((rd_T38 l0 x9_2).f1) ((rd_T38 l0 x9_2).f2) ((rd_T38 l0 x9_2).f3) ((rd_T38 l0 x9_2).f4) ((rd_T38 l0 x9_2).f5) (rd t209 x10_2) (rd t209 x9_2)).bind fun t235 => (if t235 = true then (casementref16_Order.l1 k2 l0 t206 t209 x6_1 x7_1 x8_1 x10_2 (wrap64 (x10_2 + 1))) else (casementref16_Order.l1 k2 l0 t206 t209 x6_1 x7_1 x8_1 x9_2 (wrap64 (x10_2 + 1))))) else (none)) else (none)) else (none)) else (none))) else (casementref16_Order.l1 k2 l0 t206 t209 x6_1 x7_1 x8_1 x9_2 (wrap64 (x10_2 + 1))))) else (none)) else (none)) else (none)) = some (r1, r2) := H
             have A43 := Aside0.mk A430
             clear A430
             by_cases c44 : 0 ≤ t228
             ·
              rw [if_pos c44] at H
              have c44b0 : decide (0 ≤ t228) = true := decide_eq_true c44
              clear c44
              by_cases c45 : t228 < (x6_1.length : Int)
              ·
               rw [if_pos c45] at H
               have c45b0 : decide (t228 < (x6_1.length : Int)) = true := decide_eq_true c45
               clear c45
               by_cases c46 : x10_2 < (x6_1.length : Int)
               ·
                rw [if_pos c46] at H
                have c46b0 : decide (x10_2 < (x6_1.length : Int)) = true := decide_eq_true c46
                clear c46
                obtain ⟨bq47, hbq47⟩ : ∃ b_ : Bool, b_ = (rdOf false x6_1 x10_2) := ⟨_, rfl⟩
                replace H : (if bq47 = true then (casementref16_Order.l1 k2 l0 t206 t209 x6_1 x7_1 x8_1 x9_2 (wrap64 (x10_2 + 1))) else (if rdOf false x6_1 t228 = true then (if x9_2 < 0 then (casementref16_Order.l1 k2 l0 t206 t209 x6_1 x7_1 x8_1 x10_2 (wrap64 (x10_2 + 1))) else (if 0 ≤ x9_2 then (if x9_2 < (l0.length : Int) then (if x10_2 < (t209.length : Int) then (if x9_2 < (t209.length : Int) then ((casementref16_lower.f ((rd_T38 l0 x10_2).f0) ((rd_T38 l0 x10_2).f1) ((rd_T38 l0 x10_2).f2) ((rd_T38 l0 x10_2).f3) ((rd_T38 l0 x10_2).f4) ((rd_T38 l0 x10_2).f5) ((rd_T38 l0 x9_2).f0) ((rd_T38 l0 x9_2).f1) ((rd_T38 l0 x9_2).f2) ((rd_T38 l0 x9_2).f3) ((rd_T38 l0 x9_2).f4) ((rd_T38 l0 x9_2).f5) (rd t209 x10_2) (rd t209 x9_2)).bind fun t235 => (if t235 = true then (casementref16_Order.l1 k2 l0 t206 t209 x6_1 x7_1 x8_1 x10_2 (wrap64 (x10_2 + 1))) else (casementref16_Order.l1 k2 l0 t206 t209 x6_1 x7_1 x8_1 x9_2 (wrap64 (x10_2 + 1))))) else (none)) else (none)) else (none)) else (none))) else (casementref16_Order.l1 k2 l0 t206 t209 x6_1 x7_1 x8_1 x9_2 (wrap64 (x10_2 + 1))))) = some (r1, r2) := by rw [← hbq47] at H; exact H
                have Nbq47 := Aside0.mk hbq47
                clear hbq47
                by_cases c48 : bq47 = true
                ·
                 subst c48
                 have H1 : (casementref16_Order.l1 k2 l0 t206 t209 x6_1 x7_1 x8_1 x9_2 (wrap64 (x10_2 + 1))) = some (r1, r2) := by rw [if_pos rfl] at H; exact H
                 clear H
                 have H := H1
                 clear H1
                 have H' := Aside0.mk H
                 clear H
                 obtain ⟨Ao49, co49, eo49⟩ := Kd.R_slice HO_4.out
                 subst eo49
                 have p220 : 0 ≤ (x10_2 : Int) := of_decide_eq_true (by assumption)
                 have q220 : x10_2 < (t206.length : Int) := of_decide_eq_true (by assumption)
                 obtain ⟨ad220, e220, hx220_0⟩ := Kd.at_int (Kd.R_reads' HO_4.out).2.2 x10_2 p220 q220
                 cases e220
                 replace p220 := eq_true p220
                 replace q220 := eq_true q220
                 have p227 : 0 ≤ (x10_2 : Int) := of_decide_eq_true (by assumption)
                 have q227 : x10_2 < (t206.length : Int) := of_decide_eq_true (by assumption)
                 obtain ⟨ad227, e227, hx227_0⟩ := Kd.at_int (Kd.R_reads' HO_4.out).2.2 x10_2 p227 q227
                 obtain rfl : ad220 = ad227 := (by injection e227)
                 replace p227 := eq_true p227
                 replace q227 := eq_true q227
                 try go_wp2_with (first | (go_at_call 19; (with_reducible refine (casementref16_Place.calls k2 _ _ l0 (rd t206 x10_2) t228 _ ?side1 ?side2 A43.out).mono ?_); (case side1 => repeat (first | exact (Kd.C_below HR0.out HB.out) | (with_reducible refine Kd.C_alloc ?_ _) | (with_reducible refine Kd.C_drewN ?_ _) | (with_reducible refine Kd.C_drew ?_))); (case side2 => exact HC0.out); rintro e w' ⟨rfl, ⟨nd, rfl⟩⟩; obtain ⟨Ao50, co50, eo50⟩ := Kd.R_slice HO_6.out; subst eo50; have p229 : 0 ≤ (t228 : Int) := of_decide_eq_true (by assumption); have q229 : t228 < (x6_1.length : Int) := of_decide_eq_true (by assumption); obtain ⟨ad229, e229, hx229_0⟩ := Kd.at_bool (Kd.R_reads' HO_6.out).2.2 t228 p229 q229; (try rw [← Nbq47.out] at hx229_0); cases e229; replace p229 := eq_true p229; replace q229 := eq_true q229))
                 (try (rw [drewN_self wr]; generalize hq_ : World.drewN wr _ = wr; have n0_ : Aside0 (Kd.R (Kd.int .i64) 3 wr w.heap.size (fun k_ => some k_ ≠ (v210 : Value).ownBlock ∧ some k_ ≠ (u7 : Value).ownBlock) (.slice (some ad220) t206.length co49) t206) := ⟨by rw [← hq_]; exact (by (with_reducible repeat (first | apply Kd.R_alloc | apply Kd.R_drewN | apply Kd.R_drew)); exact HO_4.out)⟩; have n1_ : Aside0 (Kd.R (Kd.int .i64) 3 wr w.heap.size (fun k_ => some k_ ≠ (.slice (some ad220) t206.length co49 : Value).ownBlock ∧ some k_ ≠ (u7 : Value).ownBlock) v210 t209) := ⟨by rw [← hq_]; exact (by (with_reducible repeat (first | apply Kd.R_alloc | apply Kd.R_drewN | apply Kd.R_drew)); exact HO_5.out)⟩; have n2_ : Aside0 (Kd.R Kd.bool 4 wr w.heap.size (fun _ => True) (.slice (some ad229) x6_1.length co50) x6_1) := ⟨by rw [← hq_]; exact (by (with_reducible repeat (first | apply Kd.R_alloc | apply Kd.R_drewN | apply Kd.R_drew)); exact HO_6.out)⟩; have n3_ : Aside0 (Kd.R (Kd.int .i64) 3 wr w.heap.size (fun k_ => some k_ ≠ (.slice (some ad220) t206.length co49 : Value).ownBlock ∧ some k_ ≠ (v210 : Value).ownBlock) u7 x7_1) := ⟨by rw [← hq_]; exact (by (with_reducible repeat (first | apply Kd.R_alloc | apply Kd.R_drewN | apply Kd.R_drew)); exact HO_7.out)⟩; have n4_ : Aside0 (Below w.heap.size w wr) := ⟨by rw [← hq_]; exact (by repeat (first | (with_reducible first | exact HB.out | apply below_alloc | apply pw_below_drewN | apply below_drew1) | exact HB.out))⟩; clear HO_4 HO_5 HO_6 HO_7 HB hq_; have HO_4 := n0_; have HO_5 := n1_; have HO_6 := n2_; have HO_7 := n3_; have HB := n4_; clear n0_ n1_ n2_ n3_ n4_))
                 have n0_ := Aside0.mk (Kd.R_drew HO_4.out)
                 have n1_ := Aside0.mk (Kd.R_drew HO_5.out)
                 have n2_ := Aside0.mk (Kd.R_drew HO_6.out)
                 have n3_ := Aside0.mk (Kd.R_drew HO_7.out)
                 have n4_ := Aside0.mk (below_drew1 HB.out)
                 clear HO_4
                 clear HO_5
                 clear HO_6
                 clear HO_7
                 clear HB
                 have HO_4 := n0_
                 have HO_5 := n1_
                 have HO_6 := n2_
                 have HO_7 := n3_
                 have HB := n4_
                 clear n0_ n1_ n2_ n3_ n4_
                 have p230 : 0 ≤ (x10_2 : Int) := of_decide_eq_true (by assumption)
                 have q230 : x10_2 < (x6_1.length : Int) := of_decide_eq_true (by assumption)
                 obtain ⟨ad230, e230, hx230_0⟩ := Kd.at_bool (Kd.R_reads' HO_6.out).2.2 x10_2 p230 q230
                 (try rw [← Nbq47.out] at hx230_0)
                 obtain rfl : ad229 = ad230 := (by injection e230)
                 replace p230 := eq_true p230
                 replace q230 := eq_true q230
                 refine start_ (n := 31) (S := fun w' => w'.cell? (ad229.add (x10_2).toNat) = some (.bool true)) (ds := []) #[oF, oF, oF, oF, oF, oF, oF, oF, oF, oF, oF, oF, oF, oF, oF, oF, oF, oF, oF, oF, oF, oF, oF, oF, oF, oF, oF, oF, oF, oF, oF] (by kernel_rfl) rfl rfl (hx230_0) (fun hHeld => ?_); refine with_tabW casementref16_Order.tab14 casementref16_Order.bits14 (fun HT_ HW_ => ?_)
                 generalize wr.drew = w51 at HO_4 HO_5 HO_6 HO_7 HB hx230_0 hHeld ⊢
                 refine pure_ (i := 0) (N := some 52) (v := ?_) (a' := ?_) #[oT, oF, oF, oF, oF, oF, oF, oF, oF, oF, oF, oF, oF, oF, oF, oF, oF, oF, oF, oF, oF, oF, oF, oF, oF, oF, oF, oF, oF, oF, oF] rfl rfl (any_of HT_.out (by kernel_rfl)) (fun _ _ _ h => h) (Or.inl ⟨by rfl, ?_⟩) ?_ ?_
                 rotate_left
                 ·
                  intro w'
                  go_simp
                  with_reducible rfl
                 rotate_left
                 ·
                  simp only [Act.put, sTA, sS0, sS1, i64_w, i32_w]
                  rfl
                 refine pure_ (i := 1) (N := some 53) (v := ?_) (a' := ?_) #[oT, oT, oF, oF, oF, oF, oF, oF, oF, oF, oF, oF, oF, oF, oF, oF, oF, oF, oF, oF, oF, oF, oF, oF, oF, oF, oF, oF, oF, oF, oF] rfl rfl (any_of HT_.out (by kernel_rfl)) (fun _ _ _ h => h) (Or.inl ⟨by rfl, ?_⟩) ?_ ?_
                 rotate_left
                 ·
                  intro w'
                  go_simp
                  with_reducible rfl
                 rotate_left
                 ·
                  simp only [Act.put, sTA, sS0, sS1, i64_w, i32_w]
                  rfl
                 refine pure_ (i := 2) (N := some 54) (v := ?_) (a' := ?_) #[oT, oT, oT, oF, oF, oF, oF, oF, oF, oF, oF, oF, oF, oF, oF, oF, oF, oF, oF, oF, oF, oF, oF, oF, oF, oF, oF, oF, oF, oF, oF] rfl rfl (any_of HT_.out (by kernel_rfl)) (fun _ _ _ h => h) (Or.inl ⟨by rfl, ?_⟩) ?_ ?_
                 rotate_left
                 ·
                  intro w'
                  go_simp
                  with_reducible rfl
                 rotate_left
                 ·
                  simp only [Act.put, sTA, sS0, sS1, i64_w, i32_w]
                  rfl
                 refine take_ (i := 3) (N := some 55) (v := ?_) (a' := ?_) #[oT, oT, oT, oT, oF, oF, oF, oF, oF, oF, oF, oF, oF, oF, oF, oF, oF, oF, oF, oF, oF, oF, oF, oF, oF, oF, oF, oF, oF, oF, oF] rfl rfl (take_ofW HT_.out HW_.out (by kernel_rfl)) (fun _ _ _ h => h) (Or.inl ⟨by rfl, ?_⟩) hHeld ?_ ?_
                 rotate_left
                 ·
                  intro w' s0
                  go_simp
                  with_reducible rfl
                 rotate_left
                 ·
                  simp only [Act.put, sTA, sS0, sS1, i64_w, i32_w]
                  rfl
                 refine pure_ (i := 4) (N := some 56) (v := ?_) (a' := ?_) #[oT, oT, oT, oT, oT, oF, oF, oF, oF, oF, oF, oF, oF, oF, oF, oF, oF, oF, oF, oF, oF, oF, oF, oF, oF, oF, oF, oF, oF, oF, oF] rfl rfl (any_of HT_.out (by kernel_rfl)) (fun _ _ _ h => h) (Or.inl ⟨by rfl, ?_⟩) ?_ ?_
                 rotate_left
                 ·
                  intro w'
                  go_simp
                  with_reducible rfl
                 rotate_left
                 ·
                  simp only [Act.put, sTA, sS0, sS1, i64_w, i32_w]
                  rfl
                 refine pure_ (i := 5) (N := some 57) (v := ?_) (a' := ?_) #[oT, oT, oT, oT, oT, oT, oF, oF, oF, oF, oF, oF, oF, oF, oF, oF, oF, oF, oF, oF, oF, oF, oF, oF, oF, oF, oF, oF, oF, oF, oF] rfl rfl (any_of HT_.out (by kernel_rfl)) (fun _ _ _ h => h) (Or.inl ⟨by rfl, ?_⟩) ?_ ?_
                 rotate_left
                 ·
                  intro w'
                  go_simp
                  with_reducible rfl
                 rotate_left
                 ·
                  simp only [Act.put, sTA, sS0, sS1, i64_w, i32_w]
                  rfl
                 refine pure_ (i := 6) (N := some 58) (v := undef) (a' := ?_) #[oT, oT, oT, oT, oT, oT, oT, oF, oF, oF, oF, oF, oF, oF, oF, oF, oF, oF, oF, oF, oF, oF, oF, oF, oF, oF, oF, oF, oF, oF, oF] rfl rfl (any_of HT_.out (by kernel_rfl)) (fun _ _ _ h => h) (Or.inr ⟨by rfl, rfl⟩) ?_ ?_
                 rotate_left
                 ·
                  simp only [Act.put, sTA, sS0, sS1, i64_w, i32_w]
                  rfl
                 refine pure_ (i := 7) (N := some 59) (v := ?_) (a' := ?_) #[oT, oT, oT, oT, oT, oT, oT, oT, oF, oF, oF, oF, oF, oF, oF, oF, oF, oF, oF, oF, oF, oF, oF, oF, oF, oF, oF, oF, oF, oF, oF] rfl rfl (any_of HT_.out (by kernel_rfl)) (fun _ _ _ h => h) (Or.inl ⟨by rfl, ?_⟩) ?_ ?_
                 rotate_left
                 ·
                  intro w'
                  go_simp
                  with_reducible rfl
                 rotate_left
                 ·
                  simp only [Act.put, sTA, sS0, sS1, i64_w, i32_w]
                  rfl
                 refine pure_ (i := 8) (N := some 60) (v := ?_) (a' := ?_) #[oT, oT, oT, oT, oT, oT, oT, oT, oT, oF, oF, oF, oF, oF, oF, oF, oF, oF, oF, oF, oF, oF, oF, oF, oF, oF, oF, oF, oF, oF, oF] rfl rfl (any_of HT_.out (by kernel_rfl)) (fun _ _ _ h => h) (Or.inl ⟨by rfl, ?_⟩) ?_ ?_
                 rotate_left
                 ·
                  intro w'
                  go_simp
                  with_reducible rfl
                 rotate_left
                 ·
                  simp only [Act.put, sTA, sS0, sS1, i64_w, i32_w]
                  rfl
                 refine pure_ (i := 9) (N := some 61) (v := undef) (a' := ?_) #[oT, oT, oT, oT, oT, oT, oT, oT, oT, oT, oF, oF, oF, oF, oF, oF, oF, oF, oF, oF, oF, oF, oF, oF, oF, oF, oF, oF, oF, oF, oF] rfl rfl (any_of HT_.out (by kernel_rfl)) (fun _ _ _ h => h) (Or.inr ⟨by rfl, rfl⟩) ?_ ?_
                 rotate_left
                 ·
                  simp only [Act.put, sTA, sS0, sS1, i64_w, i32_w]
                  rfl
                 refine pure_ (i := 10) (N := some 62) (v := undef) (a' := ?_) #[oT, oT, oT, oT, oT, oT, oT, oT, oT, oT, oT, oF, oF, oF, oF, oF, oF, oF, oF, oF, oF, oF, oF, oF, oF, oF, oF, oF, oF, oF, oF] rfl rfl (any_of HT_.out (by kernel_rfl)) (fun _ _ _ h => h) (Or.inr ⟨by rfl, rfl⟩) ?_ ?_
                 rotate_left
                 ·
                  simp only [Act.put, sTA, sS0, sS1, i64_w, i32_w]
                  rfl
                 refine pure_ (i := 11) (N := some 63) (v := undef) (a' := ?_) #[oT, oT, oT, oT, oT, oT, oT, oT, oT, oT, oT, oT, oF, oF, oF, oF, oF, oF, oF, oF, oF, oF, oF, oF, oF, oF, oF, oF, oF, oF, oF] rfl rfl (any_of HT_.out (by kernel_rfl)) (fun _ _ _ h => h) (Or.inr ⟨by rfl, rfl⟩) ?_ ?_
                 rotate_left
                 ·
                  simp only [Act.put, sTA, sS0, sS1, i64_w, i32_w]
                  rfl
                 refine pure_ (i := 12) (N := some 64) (v := undef) (a' := ?_) #[oT, oT, oT, oT, oT, oT, oT, oT, oT, oT, oT, oT, oT, oF, oF, oF, oF, oF, oF, oF, oF, oF, oF, oF, oF, oF, oF, oF, oF, oF, oF] rfl rfl (any_of HT_.out (by kernel_rfl)) (fun _ _ _ h => h) (Or.inr ⟨by rfl, rfl⟩) ?_ ?_
                 rotate_left
                 ·
                  simp only [Act.put, sTA, sS0, sS1, i64_w, i32_w]
                  rfl
                 refine pure_ (i := 13) (N := some 65) (v := undef) (a' := ?_) #[oT, oT, oT, oT, oT, oT, oT, oT, oT, oT, oT, oT, oT, oT, oF, oF, oF, oF, oF, oF, oF, oF, oF, oF, oF, oF, oF, oF, oF, oF, oF] rfl rfl (any_of HT_.out (by kernel_rfl)) (fun _ _ _ h => h) (Or.inr ⟨by rfl, rfl⟩) ?_ ?_
                 rotate_left
                 ·
                  simp only [Act.put, sTA, sS0, sS1, i64_w, i32_w]
                  rfl
                 refine pure_ (i := 14) (N := some 66) (v := undef) (a' := ?_) #[oT, oT, oT, oT, oT, oT, oT, oT, oT, oT, oT, oT, oT, oT, oT, oF, oF, oF, oF, oF, oF, oF, oF, oF, oF, oF, oF, oF, oF, oF, oF] rfl rfl (any_of HT_.out (by kernel_rfl)) (fun _ _ _ h => h) (Or.inr ⟨by rfl, rfl⟩) ?_ ?_
                 rotate_left
                 ·
                  simp only [Act.put, sTA, sS0, sS1, i64_w, i32_w]
                  rfl
                 refine pure_ (i := 15) (N := some 67) (v := undef) (a' := ?_) #[oT, oT, oT, oT, oT, oT, oT, oT, oT, oT, oT, oT, oT, oT, oT, oT, oF, oF, oF, oF, oF, oF, oF, oF, oF, oF, oF, oF, oF, oF, oF] rfl rfl (any_of HT_.out (by kernel_rfl)) (fun _ _ _ h => h) (Or.inr ⟨by rfl, rfl⟩) ?_ ?_
                 rotate_left
                 ·
                  simp only [Act.put, sTA, sS0, sS1, i64_w, i32_w]
                  rfl
                 refine pure_ (i := 16) (N := some 68) (v := undef) (a' := ?_) #[oT, oT, oT, oT, oT, oT, oT, oT, oT, oT, oT, oT, oT, oT, oT, oT, oT, oF, oF, oF, oF, oF, oF, oF, oF, oF, oF, oF, oF, oF, oF] rfl rfl (any_of HT_.out (by kernel_rfl)) (fun _ _ _ h => h) (Or.inr ⟨by rfl, rfl⟩) ?_ ?_
                 rotate_left
                 ·
                  simp only [Act.put, sTA, sS0, sS1, i64_w, i32_w]
                  rfl
                 refine pure_ (i := 17) (N := some 69) (v := undef) (a' := ?_) #[oT, oT, oT, oT, oT, oT, oT, oT, oT, oT, oT, oT, oT, oT, oT, oT, oT, oT, oF, oF, oF, oF, oF, oF, oF, oF, oF, oF, oF, oF, oF] rfl rfl (any_of HT_.out (by kernel_rfl)) (fun _ _ _ h => h) (Or.inr ⟨by rfl, rfl⟩) ?_ ?_
                 rotate_left
                 ·
                  simp only [Act.put, sTA, sS0, sS1, i64_w, i32_w]
                  rfl
                 refine pure_ (i := 18) (N := some 70) (v := undef) (a' := ?_) #[oT, oT, oT, oT, oT, oT, oT, oT, oT, oT, oT, oT, oT, oT, oT, oT, oT, oT, oT, oF, oF, oF, oF, oF, oF, oF, oF, oF, oF, oF, oF] rfl rfl (any_of HT_.out (by kernel_rfl)) (fun _ _ _ h => h) (Or.inr ⟨by rfl, rfl⟩) ?_ ?_
                 rotate_left
                 ·
                  simp only [Act.put, sTA, sS0, sS1, i64_w, i32_w]
                  rfl
                 refine pure_ (i := 19) (N := some 71) (v := undef) (a' := ?_) #[oT, oT, oT, oT, oT, oT, oT, oT, oT, oT, oT, oT, oT, oT, oT, oT, oT, oT, oT, oT, oF, oF, oF, oF, oF, oF, oF, oF, oF, oF, oF] rfl rfl (any_of HT_.out (by kernel_rfl)) (fun _ _ _ h => h) (Or.inr ⟨by rfl, rfl⟩) ?_ ?_
                 rotate_left
                 ·
                  simp only [Act.put, sTA, sS0, sS1, i64_w, i32_w]
                  rfl
                 refine pure_ (i := 20) (N := some 72) (v := undef) (a' := ?_) #[oT, oT, oT, oT, oT, oT, oT, oT, oT, oT, oT, oT, oT, oT, oT, oT, oT, oT, oT, oT, oT, oF, oF, oF, oF, oF, oF, oF, oF, oF, oF] rfl rfl (any_of HT_.out (by kernel_rfl)) (fun _ _ _ h => h) (Or.inr ⟨by rfl, rfl⟩) ?_ ?_
                 rotate_left
                 ·
                  simp only [Act.put, sTA, sS0, sS1, i64_w, i32_w]
                  rfl
                 refine pure_ (i := 21) (N := some 73) (v := undef) (a' := ?_) #[oT, oT, oT, oT, oT, oT, oT, oT, oT, oT, oT, oT, oT, oT, oT, oT, oT, oT, oT, oT, oT, oT, oF, oF, oF, oF, oF, oF, oF, oF, oF] rfl rfl (any_of HT_.out (by kernel_rfl)) (fun _ _ _ h => h) (Or.inr ⟨by rfl, rfl⟩) ?_ ?_
                 rotate_left
                 ·
                  simp only [Act.put, sTA, sS0, sS1, i64_w, i32_w]
                  rfl
                 refine pure_ (i := 22) (N := some 74) (v := undef) (a' := ?_) #[oT, oT, oT, oT, oT, oT, oT, oT, oT, oT, oT, oT, oT, oT, oT, oT, oT, oT, oT, oT, oT, oT, oT, oF, oF, oF, oF, oF, oF, oF, oF] rfl rfl (any_of HT_.out (by kernel_rfl)) (fun _ _ _ h => h) (Or.inr ⟨by rfl, rfl⟩) ?_ ?_
                 rotate_left
                 ·
                  simp only [Act.put, sTA, sS0, sS1, i64_w, i32_w]
                  rfl
                 refine pure_ (i := 23) (N := some 75) (v := undef) (a' := ?_) #[oT, oT, oT, oT, oT, oT, oT, oT, oT, oT, oT, oT, oT, oT, oT, oT, oT, oT, oT, oT, oT, oT, oT, oT, oF, oF, oF, oF, oF, oF, oF] rfl rfl (any_of HT_.out (by kernel_rfl)) (fun _ _ _ h => h) (Or.inr ⟨by rfl, rfl⟩) ?_ ?_
                 rotate_left
                 ·
                  simp only [Act.put, sTA, sS0, sS1, i64_w, i32_w]
                  rfl
                 refine pure_ (i := 24) (N := some 76) (v := undef) (a' := ?_) #[oT, oT, oT, oT, oT, oT, oT, oT, oT, oT, oT, oT, oT, oT, oT, oT, oT, oT, oT, oT, oT, oT, oT, oT, oT, oF, oF, oF, oF, oF, oF] rfl rfl (any_of HT_.out (by kernel_rfl)) (fun _ _ _ h => h) (Or.inr ⟨by rfl, rfl⟩) ?_ ?_
                 rotate_left
                 ·
                  simp only [Act.put, sTA, sS0, sS1, i64_w, i32_w]
                  rfl
                 refine pure_ (i := 25) (N := some 77) (v := undef) (a' := ?_) #[oT, oT, oT, oT, oT, oT, oT, oT, oT, oT, oT, oT, oT, oT, oT, oT, oT, oT, oT, oT, oT, oT, oT, oT, oT, oT, oF, oF, oF, oF, oF] rfl rfl (any_of HT_.out (by kernel_rfl)) (fun _ _ _ h => h) (Or.inr ⟨by rfl, rfl⟩) ?_ ?_
                 rotate_left
                 ·
                  simp only [Act.put, sTA, sS0, sS1, i64_w, i32_w]
                  rfl
                 refine pure_ (i := 26) (N := some 78) (v := undef) (a' := ?_) #[oT, oT, oT, oT, oT, oT, oT, oT, oT, oT, oT, oT, oT, oT, oT, oT, oT, oT, oT, oT, oT, oT, oT, oT, oT, oT, oT, oF, oF, oF, oF] rfl rfl (any_of HT_.out (by kernel_rfl)) (fun _ _ _ h => h) (Or.inr ⟨by rfl, rfl⟩) ?_ ?_
                 rotate_left
                 ·
                  simp only [Act.put, sTA, sS0, sS1, i64_w, i32_w]
                  rfl
                 refine pure_ (i := 27) (N := some 79) (v := undef) (a' := ?_) #[oT, oT, oT, oT, oT, oT, oT, oT, oT, oT, oT, oT, oT, oT, oT, oT, oT, oT, oT, oT, oT, oT, oT, oT, oT, oT, oT, oT, oF, oF, oF] rfl rfl (any_of HT_.out (by kernel_rfl)) (fun _ _ _ h => h) (Or.inr ⟨by rfl, rfl⟩) ?_ ?_
                 rotate_left
                 ·
                  simp only [Act.put, sTA, sS0, sS1, i64_w, i32_w]
                  rfl
                 refine pure_ (i := 28) (N := some 80) (v := undef) (a' := ?_) #[oT, oT, oT, oT, oT, oT, oT, oT, oT, oT, oT, oT, oT, oT, oT, oT, oT, oT, oT, oT, oT, oT, oT, oT, oT, oT, oT, oT, oT, oF, oF] rfl rfl (any_of HT_.out (by kernel_rfl)) (fun _ _ _ h => h) (Or.inr ⟨by rfl, rfl⟩) ?_ ?_
                 rotate_left
                 ·
                  simp only [Act.put, sTA, sS0, sS1, i64_w, i32_w]
                  rfl
                 refine pure_ (i := 29) (N := some 81) (v := undef) (a' := ?_) #[oT, oT, oT, oT, oT, oT, oT, oT, oT, oT, oT, oT, oT, oT, oT, oT, oT, oT, oT, oT, oT, oT, oT, oT, oT, oT, oT, oT, oT, oT, oF] rfl rfl (any_of HT_.out (by kernel_rfl)) (fun _ _ _ h => h) (Or.inr ⟨by rfl, rfl⟩) ?_ ?_
                 rotate_left
                 ·
                  simp only [Act.put, sTA, sS0, sS1, i64_w, i32_w]
                  rfl
                 refine pure_ (i := 30) (N := some 82) (v := ?_) (a' := ?_) #[oT, oT, oT, oT, oT, oT, oT, oT, oT, oT, oT, oT, oT, oT, oT, oT, oT, oT, oT, oT, oT, oT, oT, oT, oT, oT, oT, oT, oT, oT, oT] rfl rfl (any_of HT_.out (by kernel_rfl)) (fun _ _ _ h => h) (Or.inl ⟨by rfl, ?_⟩) ?_ ?_
                 rotate_left
                 ·
                  intro w'
                  go_simp
                  with_reducible rfl
                 rotate_left
                 ·
                  simp only [Act.put, sTA, sS0, sS1, i64_w, i32_w]
                  rfl
                 refine done_ (done_of HT_.out (by kernel_rfl)) ?_
                 try go_wp2
                 go_roundg k2
                 case measure => have := HK1.out; have := HK2.out; omega
                 case rel => exact ⟨(x9_2), (wrap64 (x10_2 + 1)), (by first | rfl | (simp; done) | (simp [*]; done)), (by first | rfl | (simp; done) | (simp [*]; done)), H', ⟨by have := HK1.out; have := HK2.out; omega⟩, ⟨by (with_reducible repeat (first | apply Kd.R_alloc | apply Kd.R_drewN | apply Kd.R_drew)); exact HO_4.out⟩, ⟨by (with_reducible repeat (first | apply Kd.R_alloc | apply Kd.R_drewN | apply Kd.R_drew)); exact HO_5.out⟩, ⟨by (with_reducible repeat (first | apply Kd.R_alloc | apply Kd.R_drewN | apply Kd.R_drew)); exact HO_6.out⟩, ⟨by (with_reducible repeat (first | apply Kd.R_alloc | apply Kd.R_drewN | apply Kd.R_drew)); exact HO_7.out⟩, ⟨by repeat (first | (with_reducible first | exact HB.out | apply below_alloc | apply pw_below_drewN | apply below_drew1) | exact HB.out)⟩⟩
                ·
                 replace c48 := Bool.eq_false_iff.mpr c48
                 subst c48
                 have H1 : (if rdOf false x6_1 t228 = true then (if x9_2 < 0 then (casementref16_Order.l1 k2 l0 t206 t209 x6_1 x7_1 x8_1 x10_2 (wrap64 (x10_2 + 1))) else (if 0 ≤ x9_2 then (if x9_2 < (l0.length : Int) then (if x10_2 < (t209.length : Int) then (if x9_2 < (t209.length : Int) then ((casementref16_lower.f ((rd_T38 l0 x10_2).f0) ((rd_T38 l0 x10_2).f1) ((rd_T38 l0 x10_2).f2) ((rd_T38 l0 x10_2).f3) ((rd_T38 l0 x10_2).f4) ((rd_T38 l0 x10_2).f5) ((rd_T38 l0 x9_2).f0) ((rd_T38 l0 x9_2).f1) ((rd_T38 l0 x9_2).f2) ((rd_T38 l0 x9_2).f3) ((rd_T38 l0 x9_2).f4) ((rd_T38 l0 x9_2).f5) (rd t209 x10_2) (rd t209 x9_2)).bind fun t235 => (if t235 = true then (casementref16_Order.l1 k2 l0 t206 t209 x6_1 x7_1 x8_1 x10_2 (wrap64 (x10_2 + 1))) else (casementref16_Order.l1 k2 l0 t206 t209 x6_1 x7_1 x8_1 x9_2 (wrap64 (x10_2 + 1))))) else (none)) else (none)) else (none)) else (none))) else (casementref16_Order.l1 k2 l0 t206 t209 x6_1 x7_1 x8_1 x9_2 (wrap64 (x10_2 + 1)))) = some (r1, r2) := by rw [if_neg (show ¬ (false = true) by decide)] at H; exact H
                 clear H
                 have H := H1
                 clear H1
                 obtain ⟨bq52, hbq52⟩ : ∃ b_ : Bool, b_ = (rdOf false x6_1 t228) := ⟨_, rfl⟩
                 replace H : (if bq52 = true then (if x9_2 < 0 then (casementref16_Order.l1 k2 l0 t206 t209 x6_1 x7_1 x8_1 x10_2 (wrap64 (x10_2 + 1))) else (if 0 ≤ x9_2 then (if x9_2 < (l0.length : Int) then (if x10_2 < (t209.length : Int) then (if x9_2 < (t209.length : Int) then ((casementref16_lower.f ((rd_T38 l0 x10_2).f0) ((rd_T38 l0 x10_2).f1) ((rd_T38 l0 x10_2).f2) ((rd_T38 l0 x10_2).f3) ((rd_T38 l0 x10_2).f4) ((rd_T38 l0 x10_2).f5) ((rd_T38 l0 x9_2).f0) ((rd_T38 l0 x9_2).f1) ((rd_T38 l0 x9_2).f2) ((rd_T38 l0 x9_2).f3) ((rd_T38 l0 x9_2).f4) ((rd_T38 l0 x9_2).f5) (rd t209 x10_2) (rd t209 x9_2)).bind fun t235 => (if t235 = true then (casementref16_Order.l1 k2 l0 t206 t209 x6_1 x7_1 x8_1 x10_2 (wrap64 (x10_2 + 1))) else (casementref16_Order.l1 k2 l0 t206 t209 x6_1 x7_1 x8_1 x9_2 (wrap64 (x10_2 + 1))))) else (none)) else (none)) else (none)) else (none))) else (casementref16_Order.l1 k2 l0 t206 t209 x6_1 x7_1 x8_1 x9_2 (wrap64 (x10_2 + 1)))) = some (r1, r2) := by rw [← hbq52] at H; exact H
                 have Nbq52 := Aside0.mk hbq52
                 clear hbq52
                 by_cases c53 : bq52 = true
                 ·
                  subst c53
                  have H1 : (if x9_2 < 0 then (casementref16_Order.l1 k2 l0 t206 t209 x6_1 x7_1 x8_1 x10_2 (wrap64 (x10_2 + 1))) else (if 0 ≤ x9_2 then (if x9_2 < (l0.length : Int) then (if x10_2 < (t209.length : Int) then (if x9_2 < (t209.length : Int) then ((casementref16_lower.f ((rd_T38 l0 x10_2).f0) ((rd_T38 l0 x10_2).f1) ((rd_T38 l0 x10_2).f2) ((rd_T38 l0 x10_2).f3) ((rd_T38 l0 x10_2).f4) ((rd_T38 l0 x10_2).f5) ((rd_T38 l0 x9_2).f0) ((rd_T38 l0 x9_2).f1) ((rd_T38 l0 x9_2).f2) ((rd_T38 l0 x9_2).f3) ((rd_T38 l0 x9_2).f4) ((rd_T38 l0 x9_2).f5) (rd t209 x10_2) (rd t209 x9_2)).bind fun t235 => (if t235 = true then (casementref16_Order.l1 k2 l0 t206 t209 x6_1 x7_1 x8_1 x10_2 (wrap64 (x10_2 + 1))) else (casementref16_Order.l1 k2 l0 t206 t209 x6_1 x7_1 x8_1 x9_2 (wrap64 (x10_2 + 1))))) else (none)) else (none)) else (none)) else (none))) = some (r1, r2) := by rw [if_pos rfl] at H; exact H
                  clear H
                  have H := H1
                  clear H1
                  by_cases c54 : x9_2 < 0
                  ·
                   rw [if_pos c54] at H
                   have c54b0 : decide (x9_2 < 0) = true := decide_eq_true c54
                   clear c54
                   have H' := Aside0.mk H
                   clear H
                   obtain ⟨Ao55, co55, eo55⟩ := Kd.R_slice HO_4.out
                   subst eo55
                   have p220 : 0 ≤ (x10_2 : Int) := of_decide_eq_true (by assumption)
                   have q220 : x10_2 < (t206.length : Int) := of_decide_eq_true (by assumption)
                   obtain ⟨ad220, e220, hx220_0⟩ := Kd.at_int (Kd.R_reads' HO_4.out).2.2 x10_2 p220 q220
                   cases e220
                   replace p220 := eq_true p220
                   replace q220 := eq_true q220
                   have p227 : 0 ≤ (x10_2 : Int) := of_decide_eq_true (by assumption)
                   have q227 : x10_2 < (t206.length : Int) := of_decide_eq_true (by assumption)
                   obtain ⟨ad227, e227, hx227_0⟩ := Kd.at_int (Kd.R_reads' HO_4.out).2.2 x10_2 p227 q227
                   obtain rfl : ad220 = ad227 := (by injection e227)
                   replace p227 := eq_true p227
                   replace q227 := eq_true q227
                   try go_wp2_with (first | (go_at_call 19; (with_reducible refine (casementref16_Place.calls k2 _ _ l0 (rd t206 x10_2) t228 _ ?side1 ?side2 A43.out).mono ?_); (case side1 => repeat (first | exact (Kd.C_below HR0.out HB.out) | (with_reducible refine Kd.C_alloc ?_ _) | (with_reducible refine Kd.C_drewN ?_ _) | (with_reducible refine Kd.C_drew ?_))); (case side2 => exact HC0.out); rintro e w' ⟨rfl, ⟨nd, rfl⟩⟩; obtain ⟨Ao56, co56, eo56⟩ := Kd.R_slice HO_6.out; subst eo56; have p229 : 0 ≤ (t228 : Int) := of_decide_eq_true (by assumption); have q229 : t228 < (x6_1.length : Int) := of_decide_eq_true (by assumption); obtain ⟨ad229, e229, hx229_0⟩ := Kd.at_bool (Kd.R_reads' HO_6.out).2.2 t228 p229 q229; (try rw [← Nbq47.out] at hx229_0); (try rw [← Nbq52.out] at hx229_0); cases e229; replace p229 := eq_true p229; replace q229 := eq_true q229))
                   (try (rw [drewN_self wr]; generalize hq_ : World.drewN wr _ = wr; have n0_ : Aside0 (Kd.R (Kd.int .i64) 3 wr w.heap.size (fun k_ => some k_ ≠ (v210 : Value).ownBlock ∧ some k_ ≠ (u7 : Value).ownBlock) (.slice (some ad220) t206.length co55) t206) := ⟨by rw [← hq_]; exact (by (with_reducible repeat (first | apply Kd.R_alloc | apply Kd.R_drewN | apply Kd.R_drew)); exact HO_4.out)⟩; have n1_ : Aside0 (Kd.R (Kd.int .i64) 3 wr w.heap.size (fun k_ => some k_ ≠ (.slice (some ad220) t206.length co55 : Value).ownBlock ∧ some k_ ≠ (u7 : Value).ownBlock) v210 t209) := ⟨by rw [← hq_]; exact (by (with_reducible repeat (first | apply Kd.R_alloc | apply Kd.R_drewN | apply Kd.R_drew)); exact HO_5.out)⟩; have n2_ : Aside0 (Kd.R Kd.bool 4 wr w.heap.size (fun _ => True) (.slice (some ad229) x6_1.length co56) x6_1) := ⟨by rw [← hq_]; exact (by (with_reducible repeat (first | apply Kd.R_alloc | apply Kd.R_drewN | apply Kd.R_drew)); exact HO_6.out)⟩; have n3_ : Aside0 (Kd.R (Kd.int .i64) 3 wr w.heap.size (fun k_ => some k_ ≠ (.slice (some ad220) t206.length co55 : Value).ownBlock ∧ some k_ ≠ (v210 : Value).ownBlock) u7 x7_1) := ⟨by rw [← hq_]; exact (by (with_reducible repeat (first | apply Kd.R_alloc | apply Kd.R_drewN | apply Kd.R_drew)); exact HO_7.out)⟩; have n4_ : Aside0 (Below w.heap.size w wr) := ⟨by rw [← hq_]; exact (by repeat (first | (with_reducible first | exact HB.out | apply below_alloc | apply pw_below_drewN | apply below_drew1) | exact HB.out))⟩; clear HO_4 HO_5 HO_6 HO_7 HB hq_; have HO_4 := n0_; have HO_5 := n1_; have HO_6 := n2_; have HO_7 := n3_; have HB := n4_; clear n0_ n1_ n2_ n3_ n4_))
                   have n0_ := Aside0.mk (Kd.R_drew HO_4.out)
                   have n1_ := Aside0.mk (Kd.R_drew HO_5.out)
                   have n2_ := Aside0.mk (Kd.R_drew HO_6.out)
                   have n3_ := Aside0.mk (Kd.R_drew HO_7.out)
                   have n4_ := Aside0.mk (below_drew1 HB.out)
                   clear HO_4
                   clear HO_5
                   clear HO_6
                   clear HO_7
                   clear HB
                   have HO_4 := n0_
                   have HO_5 := n1_
                   have HO_6 := n2_
                   have HO_7 := n3_
                   have HB := n4_
                   clear n0_ n1_ n2_ n3_ n4_
                   have p230 : 0 ≤ (x10_2 : Int) := of_decide_eq_true (by assumption)
                   have q230 : x10_2 < (x6_1.length : Int) := of_decide_eq_true (by assumption)
                   obtain ⟨ad230, e230, hx230_0⟩ := Kd.at_bool (Kd.R_reads' HO_6.out).2.2 x10_2 p230 q230
                   (try rw [← Nbq47.out] at hx230_0)
                   (try rw [← Nbq52.out] at hx230_0)
                   obtain rfl : ad229 = ad230 := (by injection e230)
                   replace p230 := eq_true p230
                   replace q230 := eq_true q230
                   refine start_ (n := 31) (S := fun w' => w'.cell? (ad229.add (x10_2).toNat) = some (.bool false)) (ds := []) #[oF, oF, oF, oF, oF, oF, oF, oF, oF, oF, oF, oF, oF, oF, oF, oF, oF, oF, oF, oF, oF, oF, oF, oF, oF, oF, oF, oF, oF, oF, oF] (by kernel_rfl) rfl rfl (hx230_0) (fun hHeld => ?_); refine with_tabW casementref16_Order.tab14 casementref16_Order.bits14 (fun HT_ HW_ => ?_)
                   generalize wr.drew = w57 at HO_4 HO_5 HO_6 HO_7 HB hx230_0 hHeld ⊢
                   refine pure_ (i := 0) (N := some 52) (v := ?_) (a' := ?_) #[oT, oF, oF, oF, oF, oF, oF, oF, oF, oF, oF, oF, oF, oF, oF, oF, oF, oF, oF, oF, oF, oF, oF, oF, oF, oF, oF, oF, oF, oF, oF] rfl rfl (any_of HT_.out (by kernel_rfl)) (fun _ _ _ h => h) (Or.inl ⟨by rfl, ?_⟩) ?_ ?_
                   rotate_left
                   ·
                    intro w'
                    go_simp
                    with_reducible rfl
                   rotate_left
                   ·
                    simp only [Act.put, sTA, sS0, sS1, i64_w, i32_w]
                    rfl
                   refine pure_ (i := 1) (N := some 53) (v := ?_) (a' := ?_) #[oT, oT, oF, oF, oF, oF, oF, oF, oF, oF, oF, oF, oF, oF, oF, oF, oF, oF, oF, oF, oF, oF, oF, oF, oF, oF, oF, oF, oF, oF, oF] rfl rfl (any_of HT_.out (by kernel_rfl)) (fun _ _ _ h => h) (Or.inl ⟨by rfl, ?_⟩) ?_ ?_
                   rotate_left
                   ·
                    intro w'
                    go_simp
                    with_reducible rfl
                   rotate_left
                   ·
                    simp only [Act.put, sTA, sS0, sS1, i64_w, i32_w]
                    rfl
                   refine pure_ (i := 2) (N := some 54) (v := ?_) (a' := ?_) #[oT, oT, oT, oF, oF, oF, oF, oF, oF, oF, oF, oF, oF, oF, oF, oF, oF, oF, oF, oF, oF, oF, oF, oF, oF, oF, oF, oF, oF, oF, oF] rfl rfl (any_of HT_.out (by kernel_rfl)) (fun _ _ _ h => h) (Or.inl ⟨by rfl, ?_⟩) ?_ ?_
                   rotate_left
                   ·
                    intro w'
                    go_simp
                    with_reducible rfl
                   rotate_left
                   ·
                    simp only [Act.put, sTA, sS0, sS1, i64_w, i32_w]
                    rfl
                   refine take_ (i := 3) (N := some 55) (v := ?_) (a' := ?_) #[oT, oT, oT, oT, oF, oF, oF, oF, oF, oF, oF, oF, oF, oF, oF, oF, oF, oF, oF, oF, oF, oF, oF, oF, oF, oF, oF, oF, oF, oF, oF] rfl rfl (take_ofW HT_.out HW_.out (by kernel_rfl)) (fun _ _ _ h => h) (Or.inl ⟨by rfl, ?_⟩) hHeld ?_ ?_
                   rotate_left
                   ·
                    intro w' s0
                    go_simp
                    with_reducible rfl
                   rotate_left
                   ·
                    simp only [Act.put, sTA, sS0, sS1, i64_w, i32_w]
                    rfl
                   refine pure_ (i := 4) (N := some 56) (v := ?_) (a' := ?_) #[oT, oT, oT, oT, oT, oF, oF, oF, oF, oF, oF, oF, oF, oF, oF, oF, oF, oF, oF, oF, oF, oF, oF, oF, oF, oF, oF, oF, oF, oF, oF] rfl rfl (any_of HT_.out (by kernel_rfl)) (fun _ _ _ h => h) (Or.inl ⟨by rfl, ?_⟩) ?_ ?_
                   rotate_left
                   ·
                    intro w'
                    go_simp
                    with_reducible rfl
                   rotate_left
                   ·
                    simp only [Act.put, sTA, sS0, sS1, i64_w, i32_w]
                    rfl
                   refine pure_ (i := 5) (N := some 57) (v := ?_) (a' := ?_) #[oT, oT, oT, oT, oT, oT, oF, oF, oF, oF, oF, oF, oF, oF, oF, oF, oF, oF, oF, oF, oF, oF, oF, oF, oF, oF, oF, oF, oF, oF, oF] rfl rfl (any_of HT_.out (by kernel_rfl)) (fun _ _ _ h => h) (Or.inl ⟨by rfl, ?_⟩) ?_ ?_
                   rotate_left
                   ·
                    intro w'
                    go_simp
                    with_reducible rfl
                   rotate_left
                   ·
                    simp only [Act.put, sTA, sS0, sS1, i64_w, i32_w]
                    rfl
                   refine pure_ (i := 6) (N := some 58) (v := ?_) (a' := ?_) #[oT, oT, oT, oT, oT, oT, oT, oF, oF, oF, oF, oF, oF, oF, oF, oF, oF, oF, oF, oF, oF, oF, oF, oF, oF, oF, oF, oF, oF, oF, oF] rfl rfl (any_of HT_.out (by kernel_rfl)) (fun _ _ _ h => h) (Or.inl ⟨by rfl, ?_⟩) ?_ ?_
                   rotate_left
                   ·
                    intro w'
                    go_simp
                    with_reducible rfl
                   rotate_left
                   ·
                    simp only [Act.put, sTA, sS0, sS1, i64_w, i32_w]
                    rfl
                   refine pure_ (i := 7) (N := some 59) (v := ?_) (a' := ?_) #[oT, oT, oT, oT, oT, oT, oT, oT, oF, oF, oF, oF, oF, oF, oF, oF, oF, oF, oF, oF, oF, oF, oF, oF, oF, oF, oF, oF, oF, oF, oF] rfl rfl (any_of HT_.out (by kernel_rfl)) (fun _ _ _ h => h) (Or.inl ⟨by rfl, ?_⟩) ?_ ?_
                   rotate_left
                   ·
                    intro w'
                    go_simp
                    with_reducible rfl
                   rotate_left
                   ·
                    simp only [Act.put, sTA, sS0, sS1, i64_w, i32_w]
                    rfl
                   refine pure_ (i := 8) (N := some 60) (v := ?_) (a' := ?_) #[oT, oT, oT, oT, oT, oT, oT, oT, oT, oF, oF, oF, oF, oF, oF, oF, oF, oF, oF, oF, oF, oF, oF, oF, oF, oF, oF, oF, oF, oF, oF] rfl rfl (any_of HT_.out (by kernel_rfl)) (fun _ _ _ h => h) (Or.inl ⟨by rfl, ?_⟩) ?_ ?_
                   rotate_left
                   ·
                    intro w'
                    go_simp
                    with_reducible rfl
                   rotate_left
                   ·
                    simp only [Act.put, sTA, sS0, sS1, i64_w, i32_w]
                    rfl
                   refine pure_ (i := 9) (N := some 61) (v := ?_) (a' := ?_) #[oT, oT, oT, oT, oT, oT, oT, oT, oT, oT, oF, oF, oF, oF, oF, oF, oF, oF, oF, oF, oF, oF, oF, oF, oF, oF, oF, oF, oF, oF, oF] rfl rfl (any_of HT_.out (by kernel_rfl)) (fun _ _ _ h => h) (Or.inl ⟨by rfl, ?_⟩) ?_ ?_
                   rotate_left
                   ·
                    intro w'
                    go_simp
                    with_reducible rfl
                   rotate_left
                   ·
                    simp only [Act.put, sTA, sS0, sS1, i64_w, i32_w]
                    rfl
                   refine pure_ (i := 10) (N := some 62) (v := ?_) (a' := ?_) #[oT, oT, oT, oT, oT, oT, oT, oT, oT, oT, oT, oF, oF, oF, oF, oF, oF, oF, oF, oF, oF, oF, oF, oF, oF, oF, oF, oF, oF, oF, oF] rfl rfl (any_of HT_.out (by kernel_rfl)) (fun _ _ _ h => h) (Or.inl ⟨by rfl, ?_⟩) ?_ ?_
                   rotate_left
                   ·
                    intro w'
                    go_simp
                    with_reducible rfl
                   rotate_left
                   ·
                    simp only [Act.put, sTA, sS0, sS1, i64_w, i32_w]
                    rfl
                   refine pure_ (i := 11) (N := some 63) (v := ?_) (a' := ?_) #[oT, oT, oT, oT, oT, oT, oT, oT, oT, oT, oT, oT, oF, oF, oF, oF, oF, oF, oF, oF, oF, oF, oF, oF, oF, oF, oF, oF, oF, oF, oF] rfl rfl (any_of HT_.out (by kernel_rfl)) (fun _ _ _ h => h) (Or.inl ⟨by rfl, ?_⟩) ?_ ?_
                   rotate_left
                   ·
                    intro w'
                    go_simp
                    with_reducible rfl
                   rotate_left
                   ·
                    simp only [Act.put, sTA, sS0, sS1, i64_w, i32_w]
                    rfl
                   refine pure_ (i := 12) (N := some 64) (v := undef) (a' := ?_) #[oT, oT, oT, oT, oT, oT, oT, oT, oT, oT, oT, oT, oT, oF, oF, oF, oF, oF, oF, oF, oF, oF, oF, oF, oF, oF, oF, oF, oF, oF, oF] rfl rfl (any_of HT_.out (by kernel_rfl)) (fun _ _ _ h => h) (Or.inr ⟨by rfl, rfl⟩) ?_ ?_
                   rotate_left
                   ·
                    simp only [Act.put, sTA, sS0, sS1, i64_w, i32_w]
                    rfl
                   refine pure_ (i := 13) (N := some 65) (v := undef) (a' := ?_) #[oT, oT, oT, oT, oT, oT, oT, oT, oT, oT, oT, oT, oT, oT, oF, oF, oF, oF, oF, oF, oF, oF, oF, oF, oF, oF, oF, oF, oF, oF, oF] rfl rfl (any_of HT_.out (by kernel_rfl)) (fun _ _ _ h => h) (Or.inr ⟨by rfl, rfl⟩) ?_ ?_
                   rotate_left
                   ·
                    simp only [Act.put, sTA, sS0, sS1, i64_w, i32_w]
                    rfl
                   refine pure_ (i := 14) (N := some 66) (v := undef) (a' := ?_) #[oT, oT, oT, oT, oT, oT, oT, oT, oT, oT, oT, oT, oT, oT, oT, oF, oF, oF, oF, oF, oF, oF, oF, oF, oF, oF, oF, oF, oF, oF, oF] rfl rfl (any_of HT_.out (by kernel_rfl)) (fun _ _ _ h => h) (Or.inr ⟨by rfl, rfl⟩) ?_ ?_
                   rotate_left
                   ·
                    simp only [Act.put, sTA, sS0, sS1, i64_w, i32_w]
                    rfl
                   refine pure_ (i := 15) (N := some 67) (v := undef) (a' := ?_) #[oT, oT, oT, oT, oT, oT, oT, oT, oT, oT, oT, oT, oT, oT, oT, oT, oF, oF, oF, oF, oF, oF, oF, oF, oF, oF, oF, oF, oF, oF, oF] rfl rfl (any_of HT_.out (by kernel_rfl)) (fun _ _ _ h => h) (Or.inr ⟨by rfl, rfl⟩) ?_ ?_
                   rotate_left
                   ·
                    simp only [Act.put, sTA, sS0, sS1, i64_w, i32_w]
                    rfl
                   refine pure_ (i := 16) (N := some 68) (v := undef) (a' := ?_) #[oT, oT, oT, oT, oT, oT, oT, oT, oT, oT, oT, oT, oT, oT, oT, oT, oT, oF, oF, oF, oF, oF, oF, oF, oF, oF, oF, oF, oF, oF, oF] rfl rfl (any_of HT_.out (by kernel_rfl)) (fun _ _ _ h => h) (Or.inr ⟨by rfl, rfl⟩) ?_ ?_
                   rotate_left
                   ·
                    simp only [Act.put, sTA, sS0, sS1, i64_w, i32_w]
                    rfl
                   refine pure_ (i := 17) (N := some 69) (v := undef) (a' := ?_) #[oT, oT, oT, oT, oT, oT, oT, oT, oT, oT, oT, oT, oT, oT, oT, oT, oT, oT, oF, oF, oF, oF, oF, oF, oF, oF, oF, oF, oF, oF, oF] rfl rfl (any_of HT_.out (by kernel_rfl)) (fun _ _ _ h => h) (Or.inr ⟨by rfl, rfl⟩) ?_ ?_
                   rotate_left
                   ·
                    simp only [Act.put, sTA, sS0, sS1, i64_w, i32_w]
                    rfl
                   refine pure_ (i := 18) (N := some 70) (v := undef) (a' := ?_) #[oT, oT, oT, oT, oT, oT, oT, oT, oT, oT, oT, oT, oT, oT, oT, oT, oT, oT, oT, oF, oF, oF, oF, oF, oF, oF, oF, oF, oF, oF, oF] rfl rfl (any_of HT_.out (by kernel_rfl)) (fun _ _ _ h => h) (Or.inr ⟨by rfl, rfl⟩) ?_ ?_
                   rotate_left
                   ·
                    simp only [Act.put, sTA, sS0, sS1, i64_w, i32_w]
                    rfl
                   refine pure_ (i := 19) (N := some 71) (v := undef) (a' := ?_) #[oT, oT, oT, oT, oT, oT, oT, oT, oT, oT, oT, oT, oT, oT, oT, oT, oT, oT, oT, oT, oF, oF, oF, oF, oF, oF, oF, oF, oF, oF, oF] rfl rfl (any_of HT_.out (by kernel_rfl)) (fun _ _ _ h => h) (Or.inr ⟨by rfl, rfl⟩) ?_ ?_
                   rotate_left
                   ·
                    simp only [Act.put, sTA, sS0, sS1, i64_w, i32_w]
                    rfl
                   refine pure_ (i := 20) (N := some 72) (v := undef) (a' := ?_) #[oT, oT, oT, oT, oT, oT, oT, oT, oT, oT, oT, oT, oT, oT, oT, oT, oT, oT, oT, oT, oT, oF, oF, oF, oF, oF, oF, oF, oF, oF, oF] rfl rfl (any_of HT_.out (by kernel_rfl)) (fun _ _ _ h => h) (Or.inr ⟨by rfl, rfl⟩) ?_ ?_
                   rotate_left
                   ·
                    simp only [Act.put, sTA, sS0, sS1, i64_w, i32_w]
                    rfl
                   refine pure_ (i := 21) (N := some 73) (v := undef) (a' := ?_) #[oT, oT, oT, oT, oT, oT, oT, oT, oT, oT, oT, oT, oT, oT, oT, oT, oT, oT, oT, oT, oT, oT, oF, oF, oF, oF, oF, oF, oF, oF, oF] rfl rfl (any_of HT_.out (by kernel_rfl)) (fun _ _ _ h => h) (Or.inr ⟨by rfl, rfl⟩) ?_ ?_
                   rotate_left
                   ·
                    simp only [Act.put, sTA, sS0, sS1, i64_w, i32_w]
                    rfl
                   refine pure_ (i := 22) (N := some 74) (v := undef) (a' := ?_) #[oT, oT, oT, oT, oT, oT, oT, oT, oT, oT, oT, oT, oT, oT, oT, oT, oT, oT, oT, oT, oT, oT, oT, oF, oF, oF, oF, oF, oF, oF, oF] rfl rfl (any_of HT_.out (by kernel_rfl)) (fun _ _ _ h => h) (Or.inr ⟨by rfl, rfl⟩) ?_ ?_
                   rotate_left
                   ·
                    simp only [Act.put, sTA, sS0, sS1, i64_w, i32_w]
                    rfl
                   refine pure_ (i := 23) (N := some 75) (v := undef) (a' := ?_) #[oT, oT, oT, oT, oT, oT, oT, oT, oT, oT, oT, oT, oT, oT, oT, oT, oT, oT, oT, oT, oT, oT, oT, oT, oF, oF, oF, oF, oF, oF, oF] rfl rfl (any_of HT_.out (by kernel_rfl)) (fun _ _ _ h => h) (Or.inr ⟨by rfl, rfl⟩) ?_ ?_
                   rotate_left
                   ·
                    simp only [Act.put, sTA, sS0, sS1, i64_w, i32_w]
                    rfl
                   refine pure_ (i := 24) (N := some 76) (v := undef) (a' := ?_) #[oT, oT, oT, oT, oT, oT, oT, oT, oT, oT, oT, oT, oT, oT, oT, oT, oT, oT, oT, oT, oT, oT, oT, oT, oT, oF, oF, oF, oF, oF, oF] rfl rfl (any_of HT_.out (by kernel_rfl)) (fun _ _ _ h => h) (Or.inr ⟨by rfl, rfl⟩) ?_ ?_
                   rotate_left
                   ·
                    simp only [Act.put, sTA, sS0, sS1, i64_w, i32_w]
                    rfl
                   refine pure_ (i := 25) (N := some 77) (v := undef) (a' := ?_) #[oT, oT, oT, oT, oT, oT, oT, oT, oT, oT, oT, oT, oT, oT, oT, oT, oT, oT, oT, oT, oT, oT, oT, oT, oT, oT, oF, oF, oF, oF, oF] rfl rfl (any_of HT_.out (by kernel_rfl)) (fun _ _ _ h => h) (Or.inr ⟨by rfl, rfl⟩) ?_ ?_
                   rotate_left
                   ·
                    simp only [Act.put, sTA, sS0, sS1, i64_w, i32_w]
                    rfl
                   refine pure_ (i := 26) (N := some 78) (v := undef) (a' := ?_) #[oT, oT, oT, oT, oT, oT, oT, oT, oT, oT, oT, oT, oT, oT, oT, oT, oT, oT, oT, oT, oT, oT, oT, oT, oT, oT, oT, oF, oF, oF, oF] rfl rfl (any_of HT_.out (by kernel_rfl)) (fun _ _ _ h => h) (Or.inr ⟨by rfl, rfl⟩) ?_ ?_
                   rotate_left
                   ·
                    simp only [Act.put, sTA, sS0, sS1, i64_w, i32_w]
                    rfl
                   refine pure_ (i := 27) (N := some 79) (v := undef) (a' := ?_) #[oT, oT, oT, oT, oT, oT, oT, oT, oT, oT, oT, oT, oT, oT, oT, oT, oT, oT, oT, oT, oT, oT, oT, oT, oT, oT, oT, oT, oF, oF, oF] rfl rfl (any_of HT_.out (by kernel_rfl)) (fun _ _ _ h => h) (Or.inr ⟨by rfl, rfl⟩) ?_ ?_
                   rotate_left
                   ·
                    simp only [Act.put, sTA, sS0, sS1, i64_w, i32_w]
                    rfl
                   refine pure_ (i := 28) (N := some 80) (v := undef) (a' := ?_) #[oT, oT, oT, oT, oT, oT, oT, oT, oT, oT, oT, oT, oT, oT, oT, oT, oT, oT, oT, oT, oT, oT, oT, oT, oT, oT, oT, oT, oT, oF, oF] rfl rfl (any_of HT_.out (by kernel_rfl)) (fun _ _ _ h => h) (Or.inr ⟨by rfl, rfl⟩) ?_ ?_
                   rotate_left
                   ·
                    simp only [Act.put, sTA, sS0, sS1, i64_w, i32_w]
                    rfl
                   refine pure_ (i := 29) (N := some 81) (v := ?_) (a' := ?_) #[oT, oT, oT, oT, oT, oT, oT, oT, oT, oT, oT, oT, oT, oT, oT, oT, oT, oT, oT, oT, oT, oT, oT, oT, oT, oT, oT, oT, oT, oT, oF] rfl rfl (any_of HT_.out (by kernel_rfl)) (fun _ _ _ h => h) (Or.inl ⟨by rfl, ?_⟩) ?_ ?_
                   rotate_left
                   ·
                    intro w'
                    go_simp
                    with_reducible rfl
                   rotate_left
                   ·
                    simp only [Act.put, sTA, sS0, sS1, i64_w, i32_w]
                    rfl
                   refine pure_ (i := 30) (N := some 82) (v := ?_) (a' := ?_) #[oT, oT, oT, oT, oT, oT, oT, oT, oT, oT, oT, oT, oT, oT, oT, oT, oT, oT, oT, oT, oT, oT, oT, oT, oT, oT, oT, oT, oT, oT, oT] rfl rfl (any_of HT_.out (by kernel_rfl)) (fun _ _ _ h => h) (Or.inl ⟨by rfl, ?_⟩) ?_ ?_
                   rotate_left
                   ·
                    intro w'
                    go_simp
                    with_reducible rfl
                   rotate_left
                   ·
                    simp only [Act.put, sTA, sS0, sS1, i64_w, i32_w]
                    rfl
                   refine done_ (done_of HT_.out (by kernel_rfl)) ?_
                   try go_wp2
                   go_roundg k2
                   case measure => have := HK1.out; have := HK2.out; omega
                   case rel => exact ⟨(x10_2), (wrap64 (x10_2 + 1)), (by first | rfl | (simp; done) | (simp [*]; done)), (by first | rfl | (simp; done) | (simp [*]; done)), H', ⟨by have := HK1.out; have := HK2.out; omega⟩, ⟨by (with_reducible repeat (first | apply Kd.R_alloc | apply Kd.R_drewN | apply Kd.R_drew)); exact HO_4.out⟩, ⟨by (with_reducible repeat (first | apply Kd.R_alloc | apply Kd.R_drewN | apply Kd.R_drew)); exact HO_5.out⟩, ⟨by (with_reducible repeat (first | apply Kd.R_alloc | apply Kd.R_drewN | apply Kd.R_drew)); exact HO_6.out⟩, ⟨by (with_reducible repeat (first | apply Kd.R_alloc | apply Kd.R_drewN | apply Kd.R_drew)); exact HO_7.out⟩, ⟨by repeat (first | (with_reducible first | exact HB.out | apply below_alloc | apply pw_below_drewN | apply below_drew1) | exact HB.out)⟩⟩
                  ·
                   rw [if_neg c54] at H
                   have c54b0 : decide (x9_2 < 0) = false := decide_eq_false c54
                   clear c54
                   by_cases c58 : 0 ≤ x9_2
                   ·
                    rw [if_pos c58] at H
                    have c58b0 : decide (0 ≤ x9_2) = true := decide_eq_true c58
                    clear c58
                    by_cases c59 : x9_2 < (l0.length : Int)
                    ·
                     rw [if_pos c59] at H
                     have c59b0 : decide (x9_2 < (l0.length : Int)) = true := decide_eq_true c59
                     clear c59
                     by_cases c60 : x10_2 < (t209.length : Int)
                     ·
                      rw [if_pos c60] at H
                      have c60b0 : decide (x10_2 < (t209.length : Int)) = true := decide_eq_true c60
                      clear c60
                      by_cases c61 : x9_2 < (t209.length : Int)
                      ·
                       rw [if_pos c61] at H
                       have c61b0 : decide (x9_2 < (t209.length : Int)) = true := decide_eq_true c61
                       clear c61
                       replace H := Option.bind_eq_some_iff.mp H
                       obtain ⟨t235, A620, H⟩ := H
                       replace H : (if t235 = true then (casementref16_Order.l1 k2 l0 t206 t209 x6_1 x7_1 x8_1 x10_2 (wrap64 (x10_2 + 1))) else (casementref16_Order.l1 k2 l0 t206 t209 x6_1 x7_1 x8_1 x9_2 (wrap64 (x10_2 + 1)))) = some (r1, r2) := H
                       have A62 := Aside0.mk A620
                       clear A620
                       by_cases c63 : t235 = true
                       ·
                        subst c63
                        have H1 : (casementref16_Order.l1 k2 l0 t206 t209 x6_1 x7_1 x8_1 x10_2 (wrap64 (x10_2 + 1))) = some (r1, r2) := by rw [if_pos rfl] at H; exact H
                        clear H
                        have H := H1
                        clear H1
                        have H' := Aside0.mk H
                        clear H
                        obtain ⟨Ao64, co64, eo64⟩ := Kd.R_slice HO_4.out
                        subst eo64
                        have p220 : 0 ≤ (x10_2 : Int) := of_decide_eq_true (by assumption)
                        have q220 : x10_2 < (t206.length : Int) := of_decide_eq_true (by assumption)
                        obtain ⟨ad220, e220, hx220_0⟩ := Kd.at_int (Kd.R_reads' HO_4.out).2.2 x10_2 p220 q220
                        cases e220
                        replace p220 := eq_true p220
                        replace q220 := eq_true q220
                        have p227 : 0 ≤ (x10_2 : Int) := of_decide_eq_true (by assumption)
                        have q227 : x10_2 < (t206.length : Int) := of_decide_eq_true (by assumption)
                        obtain ⟨ad227, e227, hx227_0⟩ := Kd.at_int (Kd.R_reads' HO_4.out).2.2 x10_2 p227 q227
                        obtain rfl : ad220 = ad227 := (by injection e227)
                        replace p227 := eq_true p227
                        replace q227 := eq_true q227
                        try go_wp2_with (first | (go_at_call 19; (with_reducible refine (casementref16_Place.calls k2 _ _ l0 (rd t206 x10_2) t228 _ ?side1 ?side2 A43.out).mono ?_); (case side1 => repeat (first | exact (Kd.C_below HR0.out HB.out) | (with_reducible refine Kd.C_alloc ?_ _) | (with_reducible refine Kd.C_drewN ?_ _) | (with_reducible refine Kd.C_drew ?_))); (case side2 => exact HC0.out); rintro e w' ⟨rfl, ⟨nd, rfl⟩⟩; obtain ⟨Ao65, co65, eo65⟩ := Kd.R_slice HO_6.out; subst eo65; have p229 : 0 ≤ (t228 : Int) := of_decide_eq_true (by assumption); have q229 : t228 < (x6_1.length : Int) := of_decide_eq_true (by assumption); obtain ⟨ad229, e229, hx229_0⟩ := Kd.at_bool (Kd.R_reads' HO_6.out).2.2 t228 p229 q229; (try rw [← Nbq47.out] at hx229_0); (try rw [← Nbq52.out] at hx229_0); cases e229; replace p229 := eq_true p229; replace q229 := eq_true q229))
                        (try (rw [drewN_self wr]; generalize hq_ : World.drewN wr _ = wr; have n0_ : Aside0 (Kd.R (Kd.int .i64) 3 wr w.heap.size (fun k_ => some k_ ≠ (v210 : Value).ownBlock ∧ some k_ ≠ (u7 : Value).ownBlock) (.slice (some ad220) t206.length co64) t206) := ⟨by rw [← hq_]; exact (by (with_reducible repeat (first | apply Kd.R_alloc | apply Kd.R_drewN | apply Kd.R_drew)); exact HO_4.out)⟩; have n1_ : Aside0 (Kd.R (Kd.int .i64) 3 wr w.heap.size (fun k_ => some k_ ≠ (.slice (some ad220) t206.length co64 : Value).ownBlock ∧ some k_ ≠ (u7 : Value).ownBlock) v210 t209) := ⟨by rw [← hq_]; exact (by (with_reducible repeat (first | apply Kd.R_alloc | apply Kd.R_drewN | apply Kd.R_drew)); exact HO_5.out)⟩; have n2_ : Aside0 (Kd.R Kd.bool 4 wr w.heap.size (fun _ => True) (.slice (some ad229) x6_1.length co65) x6_1) := ⟨by rw [← hq_]; exact (by (with_reducible repeat (first | apply Kd.R_alloc | apply Kd.R_drewN | apply Kd.R_drew)); exact HO_6.out)⟩; have n3_ : Aside0 (Kd.R (Kd.int .i64) 3 wr w.heap.size (fun k_ => some k_ ≠ (.slice (some ad220) t206.length co64 : Value).ownBlock ∧ some k_ ≠ (v210 : Value).ownBlock) u7 x7_1) := ⟨by rw [← hq_]; exact (by (with_reducible repeat (first | apply Kd.R_alloc | apply Kd.R_drewN | apply Kd.R_drew)); exact HO_7.out)⟩; have n4_ : Aside0 (Below w.heap.size w wr) := ⟨by rw [← hq_]; exact (by repeat (first | (with_reducible first | exact HB.out | apply below_alloc | apply pw_below_drewN | apply below_drew1) | exact HB.out))⟩; clear HO_4 HO_5 HO_6 HO_7 HB hq_; have HO_4 := n0_; have HO_5 := n1_; have HO_6 := n2_; have HO_7 := n3_; have HB := n4_; clear n0_ n1_ n2_ n3_ n4_))
                        have n0_ := Aside0.mk (Kd.R_drew HO_4.out)
                        have n1_ := Aside0.mk (Kd.R_drew HO_5.out)
                        have n2_ := Aside0.mk (Kd.R_drew HO_6.out)
                        have n3_ := Aside0.mk (Kd.R_drew HO_7.out)
                        have n4_ := Aside0.mk (below_drew1 HB.out)
                        clear HO_4
                        clear HO_5
                        clear HO_6
                        clear HO_7
                        clear HB
                        have HO_4 := n0_
                        have HO_5 := n1_
                        have HO_6 := n2_
                        have HO_7 := n3_
                        have HB := n4_
                        clear n0_ n1_ n2_ n3_ n4_
                        have p230 : 0 ≤ (x10_2 : Int) := of_decide_eq_true (by assumption)
                        have q230 : x10_2 < (x6_1.length : Int) := of_decide_eq_true (by assumption)
                        obtain ⟨ad230, e230, hx230_0⟩ := Kd.at_bool (Kd.R_reads' HO_6.out).2.2 x10_2 p230 q230
                        (try rw [← Nbq47.out] at hx230_0)
                        (try rw [← Nbq52.out] at hx230_0)
                        obtain rfl : ad229 = ad230 := (by injection e230)
                        replace p230 := eq_true p230
                        replace q230 := eq_true q230
                        have p231 : 0 ≤ (x10_2 : Int) := of_decide_eq_true (by assumption)
                        have q231 : x10_2 < (l0.length : Int) := of_decide_eq_true (by assumption)
                        obtain ⟨ad231, e231, hx231_0, hx231_1, hx231_2, hx231_3, hx231_4, hx231_5⟩ := at_T38 HR0.out x10_2 p231 q231
                        have hw231_5 := hx231_5
                        have hw231_4 := hx231_4
                        have hw231_3 := hx231_3
                        have hw231_2 := hx231_2
                        have hw231_1 := hx231_1
                        have hw231_0 := hx231_0
                        (try rw [← Nbq47.out] at hx231_3)
                        (try rw [← Nbq47.out] at hw231_3)
                        (try rw [← Nbq52.out] at hx231_3)
                        (try rw [← Nbq52.out] at hw231_3)
                        cases e231
                        replace hx231_0 := (HB.out.cell (World.block_lt_of_cell? w _ hx231_0)).trans hx231_0
                        replace hx231_1 := (HB.out.cell (World.block_lt_of_cell? w _ hx231_1)).trans hx231_1
                        replace hx231_2 := (HB.out.cell (World.block_lt_of_cell? w _ hx231_2)).trans hx231_2
                        replace hx231_3 := (HB.out.cell (World.block_lt_of_cell? w _ hx231_3)).trans hx231_3
                        replace hx231_4 := (HB.out.cell (World.block_lt_of_cell? w _ hx231_4)).trans hx231_4
                        replace hx231_5 := (HB.out.cell (World.block_lt_of_cell? w _ hx231_5)).trans hx231_5
                        replace p231 := eq_true p231
                        replace q231 := eq_true q231
                        have p232 : 0 ≤ (x9_2 : Int) := of_decide_eq_true (by assumption)
                        have q232 : x9_2 < (l0.length : Int) := of_decide_eq_true (by assumption)
                        obtain ⟨ad232, e232, hx232_0, hx232_1, hx232_2, hx232_3, hx232_4, hx232_5⟩ := at_T38 HR0.out x9_2 p232 q232
                        have hw232_5 := hx232_5
                        have hw232_4 := hx232_4
                        have hw232_3 := hx232_3
                        have hw232_2 := hx232_2
                        have hw232_1 := hx232_1
                        have hw232_0 := hx232_0
                        (try rw [← Nbq47.out] at hx232_3)
                        (try rw [← Nbq47.out] at hw232_3)
                        (try rw [← Nbq52.out] at hx232_3)
                        (try rw [← Nbq52.out] at hw232_3)
                        obtain rfl : ad231 = ad232 := (by injection e232)
                        replace hx232_0 := (HB.out.cell (World.block_lt_of_cell? w _ hx232_0)).trans hx232_0
                        replace hx232_1 := (HB.out.cell (World.block_lt_of_cell? w _ hx232_1)).trans hx232_1
                        replace hx232_2 := (HB.out.cell (World.block_lt_of_cell? w _ hx232_2)).trans hx232_2
                        replace hx232_3 := (HB.out.cell (World.block_lt_of_cell? w _ hx232_3)).trans hx232_3
                        replace hx232_4 := (HB.out.cell (World.block_lt_of_cell? w _ hx232_4)).trans hx232_4
                        replace hx232_5 := (HB.out.cell (World.block_lt_of_cell? w _ hx232_5)).trans hx232_5
                        replace p232 := eq_true p232
                        replace q232 := eq_true q232
                        obtain ⟨Ao67, co67, eo67⟩ := Kd.R_slice HO_5.out
                        (first | subst eo67 | (injection eo67 with f1_ f2_ f3_; have f4_ := f1_.symm; have f5_ := f3_.symm; clear f1_ f2_ f3_; subst f4_; subst f5_))
                        have p233 : 0 ≤ (x10_2 : Int) := of_decide_eq_true (by assumption)
                        have q233 : x10_2 < (t209.length : Int) := of_decide_eq_true (by assumption)
                        obtain ⟨ad233, e233, hx233_0⟩ := Kd.at_int (Kd.R_reads' HO_5.out).2.2 x10_2 p233 q233
                        cases e233
                        replace p233 := eq_true p233
                        replace q233 := eq_true q233
                        have p234 : 0 ≤ (x9_2 : Int) := of_decide_eq_true (by assumption)
                        have q234 : x9_2 < (t209.length : Int) := of_decide_eq_true (by assumption)
                        obtain ⟨ad234, e234, hx234_0⟩ := Kd.at_int (Kd.R_reads' HO_5.out).2.2 x9_2 p234 q234
                        obtain rfl : ad233 = ad234 := (by injection e234)
                        replace p234 := eq_true p234
                        replace q234 := eq_true q234
                        refine start_ (n := 31) (S := fun w' => w'.cell? (ad229.add (x10_2).toNat) = some (.bool false) ∧ w'.cell? (ad231.add ((x10_2).toNat * 6)) = some (.int .i64 ((rd_T38 l0 x10_2).f0)) ∧ w'.cell? ⟨(ad231.add ((x10_2).toNat * 6)).block, (ad231.add ((x10_2).toNat * 6)).off + 1, none⟩ = some (.int .i64 ((rd_T38 l0 x10_2).f1)) ∧ w'.cell? ⟨(ad231.add ((x10_2).toNat * 6)).block, (ad231.add ((x10_2).toNat * 6)).off + 2, none⟩ = some (.int .i64 ((rd_T38 l0 x10_2).f2)) ∧ w'.cell? ⟨(ad231.add ((x10_2).toNat * 6)).block, (ad231.add ((x10_2).toNat * 6)).off + 3, none⟩ = some (.bool ((rd_T38 l0 x10_2).f3)) ∧ w'.cell? ⟨(ad231.add ((x10_2).toNat * 6)).block, (ad231.add ((x10_2).toNat * 6)).off + 4, none⟩ = some (.int .i64 ((rd_T38 l0 x10_2).f4)) ∧ w'.cell? ⟨(ad231.add ((x10_2).toNat * 6)).block, (ad231.add ((x10_2).toNat * 6)).off + 5, none⟩ = some (.int .i64 ((rd_T38 l0 x10_2).f5)) ∧ w'.cell? (ad231.add ((x9_2).toNat * 6)) = some (.int .i64 ((rd_T38 l0 x9_2).f0)) ∧ w'.cell? ⟨(ad231.add ((x9_2).toNat * 6)).block, (ad231.add ((x9_2).toNat * 6)).off + 1, none⟩ = some (.int .i64 ((rd_T38 l0 x9_2).f1)) ∧ w'.cell? ⟨(ad231.add ((x9_2).toNat * 6)).block, (ad231.add ((x9_2).toNat * 6)).off + 2, none⟩ = some (.int .i64 ((rd_T38 l0 x9_2).f2)) ∧ w'.cell? ⟨(ad231.add ((x9_2).toNat * 6)).block, (ad231.add ((x9_2).toNat * 6)).off + 3, none⟩ = some (.bool ((rd_T38 l0 x9_2).f3)) ∧ w'.cell? ⟨(ad231.add ((x9_2).toNat * 6)).block, (ad231.add ((x9_2).toNat * 6)).off + 4, none⟩ = some (.int .i64 ((rd_T38 l0 x9_2).f4)) ∧ w'.cell? ⟨(ad231.add ((x9_2).toNat * 6)).block, (ad231.add ((x9_2).toNat * 6)).off + 5, none⟩ = some (.int .i64 ((rd_T38 l0 x9_2).f5)) ∧ w'.cell? (ad233.add (x10_2).toNat) = some (.int .i64 (rd t209 x10_2)) ∧ w'.cell? (ad233.add (x9_2).toNat) = some (.int .i64 (rd t209 x9_2))) (ds := []) #[oF, oF, oF, oF, oF, oF, oF, oF, oF, oF, oF, oF, oF, oF, oF, oF, oF, oF, oF, oF, oF, oF, oF, oF, oF, oF, oF, oF, oF, oF, oF] (by kernel_rfl) rfl rfl ⟨hx230_0, ((HB.out.cell (World.block_lt_of_cell? w _ hw231_0)).trans hw231_0), ((HB.out.cell (World.block_lt_of_cell? w _ hw231_1)).trans hw231_1), ((HB.out.cell (World.block_lt_of_cell? w _ hw231_2)).trans hw231_2), ((HB.out.cell (World.block_lt_of_cell? w _ hw231_3)).trans hw231_3), ((HB.out.cell (World.block_lt_of_cell? w _ hw231_4)).trans hw231_4), ((HB.out.cell (World.block_lt_of_cell? w _ hw231_5)).trans hw231_5), ((HB.out.cell (World.block_lt_of_cell? w _ hw232_0)).trans hw232_0), ((HB.out.cell (World.block_lt_of_cell? w _ hw232_1)).trans hw232_1), ((HB.out.cell (World.block_lt_of_cell? w _ hw232_2)).trans hw232_2), ((HB.out.cell (World.block_lt_of_cell? w _ hw232_3)).trans hw232_3), ((HB.out.cell (World.block_lt_of_cell? w _ hw232_4)).trans hw232_4), ((HB.out.cell (World.block_lt_of_cell? w _ hw232_5)).trans hw232_5), hx233_0, hx234_0⟩ (fun hHeld => ?_); refine with_tabW casementref16_Order.tab14 casementref16_Order.bits14 (fun HT_ HW_ => ?_)
                        generalize wr.drew = w66 at HO_4 HO_5 HO_6 HO_7 HB hx230_0 hx231_0 hx231_1 hx231_2 hx231_3 hx231_4 hx231_5 hx232_0 hx232_1 hx232_2 hx232_3 hx232_4 hx232_5 hx233_0 hx234_0 hHeld ⊢
                        refine pure_ (i := 0) (N := some 52) (v := ?_) (a' := ?_) #[oT, oF, oF, oF, oF, oF, oF, oF, oF, oF, oF, oF, oF, oF, oF, oF, oF, oF, oF, oF, oF, oF, oF, oF, oF, oF, oF, oF, oF, oF, oF] rfl rfl (any_of HT_.out (by kernel_rfl)) (fun _ _ _ h => h) (Or.inl ⟨by rfl, ?_⟩) ?_ ?_
                        rotate_left
                        ·
                         intro w'
                         go_simp
                         with_reducible rfl
                        rotate_left
                        ·
                         simp only [Act.put, sTA, sS0, sS1, i64_w, i32_w]
                         rfl
                        refine pure_ (i := 1) (N := some 53) (v := ?_) (a' := ?_) #[oT, oT, oF, oF, oF, oF, oF, oF, oF, oF, oF, oF, oF, oF, oF, oF, oF, oF, oF, oF, oF, oF, oF, oF, oF, oF, oF, oF, oF, oF, oF] rfl rfl (any_of HT_.out (by kernel_rfl)) (fun _ _ _ h => h) (Or.inl ⟨by rfl, ?_⟩) ?_ ?_
                        rotate_left
                        ·
                         intro w'
                         go_simp
                         with_reducible rfl
                        rotate_left
                        ·
                         simp only [Act.put, sTA, sS0, sS1, i64_w, i32_w]
                         rfl
                        refine pure_ (i := 2) (N := some 54) (v := ?_) (a' := ?_) #[oT, oT, oT, oF, oF, oF, oF, oF, oF, oF, oF, oF, oF, oF, oF, oF, oF, oF, oF, oF, oF, oF, oF, oF, oF, oF, oF, oF, oF, oF, oF] rfl rfl (any_of HT_.out (by kernel_rfl)) (fun _ _ _ h => h) (Or.inl ⟨by rfl, ?_⟩) ?_ ?_
                        rotate_left
                        ·
                         intro w'
                         go_simp
                         with_reducible rfl
                        rotate_left
                        ·
                         simp only [Act.put, sTA, sS0, sS1, i64_w, i32_w]
                         rfl
                        refine take_ (i := 3) (N := some 55) (v := ?_) (a' := ?_) #[oT, oT, oT, oT, oF, oF, oF, oF, oF, oF, oF, oF, oF, oF, oF, oF, oF, oF, oF, oF, oF, oF, oF, oF, oF, oF, oF, oF, oF, oF, oF] rfl rfl (take_ofW HT_.out HW_.out (by kernel_rfl)) (fun _ _ _ h => h) (Or.inl ⟨by rfl, ?_⟩) hHeld ?_ ?_
                        rotate_left
                        ·
                         rintro w' ⟨s0, s1, s2, s3, s4, s5, s6, s7, s8, s9, s10, s11, s12, s13, s14⟩
                         go_simp
                         with_reducible rfl
                        rotate_left
                        ·
                         simp only [Act.put, sTA, sS0, sS1, i64_w, i32_w]
                         rfl
                        refine pure_ (i := 4) (N := some 56) (v := ?_) (a' := ?_) #[oT, oT, oT, oT, oT, oF, oF, oF, oF, oF, oF, oF, oF, oF, oF, oF, oF, oF, oF, oF, oF, oF, oF, oF, oF, oF, oF, oF, oF, oF, oF] rfl rfl (any_of HT_.out (by kernel_rfl)) (fun _ _ _ h => h) (Or.inl ⟨by rfl, ?_⟩) ?_ ?_
                        rotate_left
                        ·
                         intro w'
                         go_simp
                         with_reducible rfl
                        rotate_left
                        ·
                         simp only [Act.put, sTA, sS0, sS1, i64_w, i32_w]
                         rfl
                        refine pure_ (i := 5) (N := some 57) (v := ?_) (a' := ?_) #[oT, oT, oT, oT, oT, oT, oF, oF, oF, oF, oF, oF, oF, oF, oF, oF, oF, oF, oF, oF, oF, oF, oF, oF, oF, oF, oF, oF, oF, oF, oF] rfl rfl (any_of HT_.out (by kernel_rfl)) (fun _ _ _ h => h) (Or.inl ⟨by rfl, ?_⟩) ?_ ?_
                        rotate_left
                        ·
                         intro w'
                         go_simp
                         with_reducible rfl
                        rotate_left
                        ·
                         simp only [Act.put, sTA, sS0, sS1, i64_w, i32_w]
                         rfl
                        refine pure_ (i := 6) (N := some 58) (v := ?_) (a' := ?_) #[oT, oT, oT, oT, oT, oT, oT, oF, oF, oF, oF, oF, oF, oF, oF, oF, oF, oF, oF, oF, oF, oF, oF, oF, oF, oF, oF, oF, oF, oF, oF] rfl rfl (any_of HT_.out (by kernel_rfl)) (fun _ _ _ h => h) (Or.inl ⟨by rfl, ?_⟩) ?_ ?_
                        rotate_left
                        ·
                         intro w'
                         go_simp
                         with_reducible rfl
                        rotate_left
                        ·
                         simp only [Act.put, sTA, sS0, sS1, i64_w, i32_w]
                         rfl
                        refine pure_ (i := 7) (N := some 59) (v := ?_) (a' := ?_) #[oT, oT, oT, oT, oT, oT, oT, oT, oF, oF, oF, oF, oF, oF, oF, oF, oF, oF, oF, oF, oF, oF, oF, oF, oF, oF, oF, oF, oF, oF, oF] rfl rfl (any_of HT_.out (by kernel_rfl)) (fun _ _ _ h => h) (Or.inl ⟨by rfl, ?_⟩) ?_ ?_
                        rotate_left
                        ·
                         intro w'
                         go_simp
                         with_reducible rfl
                        rotate_left
                        ·
                         simp only [Act.put, sTA, sS0, sS1, i64_w, i32_w]
                         rfl
                        refine pure_ (i := 8) (N := some 60) (v := ?_) (a' := ?_) #[oT, oT, oT, oT, oT, oT, oT, oT, oT, oF, oF, oF, oF, oF, oF, oF, oF, oF, oF, oF, oF, oF, oF, oF, oF, oF, oF, oF, oF, oF, oF] rfl rfl (any_of HT_.out (by kernel_rfl)) (fun _ _ _ h => h) (Or.inl ⟨by rfl, ?_⟩) ?_ ?_
                        rotate_left
                        ·
                         intro w'
                         go_simp
                         with_reducible rfl
                        rotate_left
                        ·
                         simp only [Act.put, sTA, sS0, sS1, i64_w, i32_w]
                         rfl
                        refine pure_ (i := 9) (N := some 61) (v := ?_) (a' := ?_) #[oT, oT, oT, oT, oT, oT, oT, oT, oT, oT, oF, oF, oF, oF, oF, oF, oF, oF, oF, oF, oF, oF, oF, oF, oF, oF, oF, oF, oF, oF, oF] rfl rfl (any_of HT_.out (by kernel_rfl)) (fun _ _ _ h => h) (Or.inl ⟨by rfl, ?_⟩) ?_ ?_
                        rotate_left
                        ·
                         intro w'
                         go_simp
                         with_reducible rfl
                        rotate_left
                        ·
                         simp only [Act.put, sTA, sS0, sS1, i64_w, i32_w]
                         rfl
                        refine pure_ (i := 10) (N := some 62) (v := ?_) (a' := ?_) #[oT, oT, oT, oT, oT, oT, oT, oT, oT, oT, oT, oF, oF, oF, oF, oF, oF, oF, oF, oF, oF, oF, oF, oF, oF, oF, oF, oF, oF, oF, oF] rfl rfl (any_of HT_.out (by kernel_rfl)) (fun _ _ _ h => h) (Or.inl ⟨by rfl, ?_⟩) ?_ ?_
                        rotate_left
                        ·
                         intro w'
                         go_simp
                         with_reducible rfl
                        rotate_left
                        ·
                         simp only [Act.put, sTA, sS0, sS1, i64_w, i32_w]
                         rfl
                        refine pure_ (i := 11) (N := some 63) (v := ?_) (a' := ?_) #[oT, oT, oT, oT, oT, oT, oT, oT, oT, oT, oT, oT, oF, oF, oF, oF, oF, oF, oF, oF, oF, oF, oF, oF, oF, oF, oF, oF, oF, oF, oF] rfl rfl (any_of HT_.out (by kernel_rfl)) (fun _ _ _ h => h) (Or.inl ⟨by rfl, ?_⟩) ?_ ?_
                        rotate_left
                        ·
                         intro w'
                         go_simp
                         with_reducible rfl
                        rotate_left
                        ·
                         simp only [Act.put, sTA, sS0, sS1, i64_w, i32_w]
                         rfl
                        refine pure_ (i := 12) (N := some 64) (v := ?_) (a' := ?_) #[oT, oT, oT, oT, oT, oT, oT, oT, oT, oT, oT, oT, oT, oF, oF, oF, oF, oF, oF, oF, oF, oF, oF, oF, oF, oF, oF, oF, oF, oF, oF] rfl rfl (any_of HT_.out (by kernel_rfl)) (fun _ _ _ h => h) (Or.inl ⟨by rfl, ?_⟩) ?_ ?_
                        rotate_left
                        ·
                         intro w'
                         go_simp
                         with_reducible rfl
                        rotate_left
                        ·
                         simp only [Act.put, sTA, sS0, sS1, i64_w, i32_w]
                         rfl
                        refine pure_ (i := 13) (N := some 65) (v := ?_) (a' := ?_) #[oT, oT, oT, oT, oT, oT, oT, oT, oT, oT, oT, oT, oT, oT, oF, oF, oF, oF, oF, oF, oF, oF, oF, oF, oF, oF, oF, oF, oF, oF, oF] rfl rfl (any_of HT_.out (by kernel_rfl)) (fun _ _ _ h => h) (Or.inl ⟨by rfl, ?_⟩) ?_ ?_
                        rotate_left
                        ·
                         intro w'
                         go_simp
                         with_reducible rfl
                        rotate_left
                        ·
                         simp only [Act.put, sTA, sS0, sS1, i64_w, i32_w]
                         rfl
                        refine pure_ (i := 14) (N := some 66) (v := ?_) (a' := ?_) #[oT, oT, oT, oT, oT, oT, oT, oT, oT, oT, oT, oT, oT, oT, oT, oF, oF, oF, oF, oF, oF, oF, oF, oF, oF, oF, oF, oF, oF, oF, oF] rfl rfl (any_of HT_.out (by kernel_rfl)) (fun _ _ _ h => h) (Or.inl ⟨by rfl, ?_⟩) ?_ ?_
                        rotate_left
                        ·
                         intro w'
                         go_simp
                         with_reducible rfl
                        rotate_left
                        ·
                         simp only [Act.put, sTA, sS0, sS1, i64_w, i32_w]
                         rfl
                        refine pure_ (i := 16) (N := some 68) (v := ?_) (a' := ?_) #[oT, oT, oT, oT, oT, oT, oT, oT, oT, oT, oT, oT, oT, oT, oT, oF, oT, oF, oF, oF, oF, oF, oF, oF, oF, oF, oF, oF, oF, oF, oF] rfl rfl (any_of HT_.out (by kernel_rfl)) (fun _ _ _ h => h) (Or.inl ⟨by rfl, ?_⟩) ?_ ?_
                        rotate_left
                        ·
                         intro w'
                         go_simp
                         with_reducible rfl
                        rotate_left
                        ·
                         simp only [Act.put, sTA, sS0, sS1, i64_w, i32_w]
                         rfl
                        refine pure_ (i := 17) (N := some 69) (v := ?_) (a' := ?_) #[oT, oT, oT, oT, oT, oT, oT, oT, oT, oT, oT, oT, oT, oT, oT, oF, oT, oT, oF, oF, oF, oF, oF, oF, oF, oF, oF, oF, oF, oF, oF] rfl rfl (any_of HT_.out (by kernel_rfl)) (fun _ _ _ h => h) (Or.inl ⟨by rfl, ?_⟩) ?_ ?_
                        rotate_left
                        ·
                         intro w'
                         go_simp
                         with_reducible rfl
                        rotate_left
                        ·
                         simp only [Act.put, sTA, sS0, sS1, i64_w, i32_w]
                         rfl
                        refine pure_ (i := 18) (N := some 70) (v := ?_) (a' := ?_) #[oT, oT, oT, oT, oT, oT, oT, oT, oT, oT, oT, oT, oT, oT, oT, oF, oT, oT, oT, oF, oF, oF, oF, oF, oF, oF, oF, oF, oF, oF, oF] rfl rfl (any_of HT_.out (by kernel_rfl)) (fun _ _ _ h => h) (Or.inl ⟨by rfl, ?_⟩) ?_ ?_
                        rotate_left
                        ·
                         intro w'
                         go_simp
                         with_reducible rfl
                        rotate_left
                        ·
                         simp only [Act.put, sTA, sS0, sS1, i64_w, i32_w]
                         rfl
                        refine pure_ (i := 20) (N := some 72) (v := ?_) (a' := ?_) #[oT, oT, oT, oT, oT, oT, oT, oT, oT, oT, oT, oT, oT, oT, oT, oF, oT, oT, oT, oF, oT, oF, oF, oF, oF, oF, oF, oF, oF, oF, oF] rfl rfl (any_of HT_.out (by kernel_rfl)) (fun _ _ _ h => h) (Or.inl ⟨by rfl, ?_⟩) ?_ ?_
                        rotate_left
                        ·
                         intro w'
                         go_simp
                         with_reducible rfl
                        rotate_left
                        ·
                         simp only [Act.put, sTA, sS0, sS1, i64_w, i32_w]
                         rfl
                        refine pure_ (i := 21) (N := some 73) (v := ?_) (a' := ?_) #[oT, oT, oT, oT, oT, oT, oT, oT, oT, oT, oT, oT, oT, oT, oT, oF, oT, oT, oT, oF, oT, oT, oF, oF, oF, oF, oF, oF, oF, oF, oF] rfl rfl (any_of HT_.out (by kernel_rfl)) (fun _ _ _ h => h) (Or.inl ⟨by rfl, ?_⟩) ?_ ?_
                        rotate_left
                        ·
                         intro w'
                         go_simp
                         with_reducible rfl
                        rotate_left
                        ·
                         simp only [Act.put, sTA, sS0, sS1, i64_w, i32_w]
                         rfl
                        refine pure_ (i := 22) (N := some 74) (v := ?_) (a' := ?_) #[oT, oT, oT, oT, oT, oT, oT, oT, oT, oT, oT, oT, oT, oT, oT, oF, oT, oT, oT, oF, oT, oT, oT, oF, oF, oF, oF, oF, oF, oF, oF] rfl rfl (any_of HT_.out (by kernel_rfl)) (fun _ _ _ h => h) (Or.inl ⟨by rfl, ?_⟩) ?_ ?_
                        rotate_left
                        ·
                         intro w'
                         go_simp
                         with_reducible rfl
                        rotate_left
                        ·
                         simp only [Act.put, sTA, sS0, sS1, i64_w, i32_w]
                         rfl
                        refine pure_ (i := 24) (N := some 76) (v := ?_) (a' := ?_) #[oT, oT, oT, oT, oT, oT, oT, oT, oT, oT, oT, oT, oT, oT, oT, oF, oT, oT, oT, oF, oT, oT, oT, oF, oT, oF, oF, oF, oF, oF, oF] rfl rfl (any_of HT_.out (by kernel_rfl)) (fun _ _ _ h => h) (Or.inl ⟨by rfl, ?_⟩) ?_ ?_
                        rotate_left
                        ·
                         intro w'
                         go_simp
                         with_reducible rfl
                        rotate_left
                        ·
                         simp only [Act.put, sTA, sS0, sS1, i64_w, i32_w]
                         rfl
                        refine pure_ (i := 25) (N := some 77) (v := ?_) (a' := ?_) #[oT, oT, oT, oT, oT, oT, oT, oT, oT, oT, oT, oT, oT, oT, oT, oF, oT, oT, oT, oF, oT, oT, oT, oF, oT, oT, oF, oF, oF, oF, oF] rfl rfl (any_of HT_.out (by kernel_rfl)) (fun _ _ _ h => h) (Or.inl ⟨by rfl, ?_⟩) ?_ ?_
                        rotate_left
                        ·
                         intro w'
                         go_simp
                         with_reducible rfl
                        rotate_left
                        ·
                         simp only [Act.put, sTA, sS0, sS1, i64_w, i32_w]
                         rfl
                        refine pure_ (i := 26) (N := some 78) (v := ?_) (a' := ?_) #[oT, oT, oT, oT, oT, oT, oT, oT, oT, oT, oT, oT, oT, oT, oT, oF, oT, oT, oT, oF, oT, oT, oT, oF, oT, oT, oT, oF, oF, oF, oF] rfl rfl (any_of HT_.out (by kernel_rfl)) (fun _ _ _ h => h) (Or.inl ⟨by rfl, ?_⟩) ?_ ?_
                        rotate_left
                        ·
                         intro w'
                         go_simp
                         with_reducible rfl
                        rotate_left
                        ·
                         simp only [Act.put, sTA, sS0, sS1, i64_w, i32_w]
                         rfl
                        refine take_ (i := 15) (N := some 67) (v := ?_) (a' := ?_) #[oT, oT, oT, oT, oT, oT, oT, oT, oT, oT, oT, oT, oT, oT, oT, oT, oT, oT, oT, oF, oT, oT, oT, oF, oT, oT, oT, oF, oF, oF, oF] rfl rfl (take_ofW HT_.out HW_.out (by kernel_rfl)) (fun _ _ _ h => h) (Or.inl ⟨by rfl, ?_⟩) hHeld ?_ ?_
                        rotate_left
                        ·
                         rintro w' ⟨s0, s1, s2, s3, s4, s5, s6, s7, s8, s9, s10, s11, s12, s13, s14⟩
                         go_simp
                         with_reducible rfl
                        rotate_left
                        ·
                         simp only [Act.put, sTA, sS0, sS1, i64_w, i32_w]
                         rfl
                        refine take_ (i := 19) (N := some 71) (v := ?_) (a' := ?_) #[oT, oT, oT, oT, oT, oT, oT, oT, oT, oT, oT, oT, oT, oT, oT, oT, oT, oT, oT, oT, oT, oT, oT, oF, oT, oT, oT, oF, oF, oF, oF] rfl rfl (take_ofW HT_.out HW_.out (by kernel_rfl)) (fun _ _ _ h => h) (Or.inl ⟨by rfl, ?_⟩) hHeld ?_ ?_
                        rotate_left
                        ·
                         rintro w' ⟨s0, s1, s2, s3, s4, s5, s6, s7, s8, s9, s10, s11, s12, s13, s14⟩
                         go_simp
                         with_reducible rfl
                        rotate_left
                        ·
                         simp only [Act.put, sTA, sS0, sS1, i64_w, i32_w]
                         rfl
                        refine take_ (i := 23) (N := some 75) (v := ?_) (a' := ?_) #[oT, oT, oT, oT, oT, oT, oT, oT, oT, oT, oT, oT, oT, oT, oT, oT, oT, oT, oT, oT, oT, oT, oT, oT, oT, oT, oT, oF, oF, oF, oF] rfl rfl (take_ofW HT_.out HW_.out (by kernel_rfl)) (fun _ _ _ h => h) (Or.inl ⟨by rfl, ?_⟩) hHeld ?_ ?_
                        rotate_left
                        ·
                         rintro w' ⟨s0, s1, s2, s3, s4, s5, s6, s7, s8, s9, s10, s11, s12, s13, s14⟩
                         go_simp
                         with_reducible rfl
                        rotate_left
                        ·
                         simp only [Act.put, sTA, sS0, sS1, i64_w, i32_w]
                         rfl
                        refine take_ (i := 27) (N := some 79) (v := ?_) (a' := ?_) #[oT, oT, oT, oT, oT, oT, oT, oT, oT, oT, oT, oT, oT, oT, oT, oT, oT, oT, oT, oT, oT, oT, oT, oT, oT, oT, oT, oT, oF, oF, oF] rfl rfl (take_ofW HT_.out HW_.out (by kernel_rfl)) (fun _ _ _ h => h) (Or.inl ⟨by rfl, ?_⟩) hHeld ?_ ?_
                        rotate_left
                        ·
                         rintro w' ⟨s0, s1, s2, s3, s4, s5, s6, s7, s8, s9, s10, s11, s12, s13, s14⟩
                         go_simp
                         with_reducible rfl
                        rotate_left
                        ·
                         simp only [Act.put, sTA, sS0, sS1, i64_w, i32_w]
                         rfl
                        refine one_ (i := 28) (N := some 80) #[oT, oT, oT, oT, oT, oT, oT, oT, oT, oT, oT, oT, oT, oT, oT, oT, oT, oT, oT, oT, oT, oT, oT, oT, oT, oT, oT, oT, oT, oF, oF] rfl rfl (one_of HT_.out (by kernel_rfl)) (by decide) (fun K hK => ?_)
                        refine goes_ Try.func34 (by kernel_rfl) rfl #[.agg #[.int .i64 ((rd_T38 l0 x10_2).f0), .int .i64 ((rd_T38 l0 x10_2).f1), .int .i64 ((rd_T38 l0 x10_2).f2), .bool ((rd_T38 l0 x10_2).f3), .int .i64 ((rd_T38 l0 x10_2).f4), .int .i64 ((rd_T38 l0 x10_2).f5)], .agg #[.int .i64 ((rd_T38 l0 x9_2).f0), .int .i64 ((rd_T38 l0 x9_2).f1), .int .i64 ((rd_T38 l0 x9_2).f2), .bool ((rd_T38 l0 x9_2).f3), .int .i64 ((rd_T38 l0 x9_2).f4), .int .i64 ((rd_T38 l0 x9_2).f5)], .int .i64 (rd t209 x10_2), .int .i64 (rd t209 x9_2)] (by rfl) rfl rfl (by (try simp only [List.map_toArray, List.map_cons, List.map_nil]); first | done | rfl | (simp only [List.length_drop, List.length_take]; rfl)) ?_
                        with_reducible refine (casementref16_lower.calls ((rd_T38 l0 x10_2).f0) ((rd_T38 l0 x10_2).f1) ((rd_T38 l0 x10_2).f2) ((rd_T38 l0 x10_2).f3) ((rd_T38 l0 x10_2).f4) ((rd_T38 l0 x10_2).f5) ((rd_T38 l0 x9_2).f0) ((rd_T38 l0 x9_2).f1) ((rd_T38 l0 x9_2).f2) ((rd_T38 l0 x9_2).f3) ((rd_T38 l0 x9_2).f4) ((rd_T38 l0 x9_2).f5) (rd t209 x10_2) (rd t209 x9_2) true _ A62.out).mono ?_
                        rintro e w68 ⟨rfl, hb⟩
                        have HS0_ := (hb.cell (World.block_lt_of_cell? _ _ (hHeld.1))).trans (hHeld.1)
                        have HS13_ := (hb.cell (World.block_lt_of_cell? _ _ (hHeld.2.2.2.2.2.2.2.2.2.2.2.2.2.1))).trans (hHeld.2.2.2.2.2.2.2.2.2.2.2.2.2.1)
                        have HS14_ := (hb.cell (World.block_lt_of_cell? _ _ (hHeld.2.2.2.2.2.2.2.2.2.2.2.2.2.2))).trans (hHeld.2.2.2.2.2.2.2.2.2.2.2.2.2.2)
                        refine ⟨_, rfl, ?_⟩
                        have n0_ := Aside0.mk (Kd.R_below (by (with_reducible repeat (first | apply Kd.R_alloc | apply Kd.R_drewN | apply Kd.R_drew)); exact HO_4.out) hb)
                        have n1_ := Aside0.mk (Kd.R_below (by (with_reducible repeat (first | apply Kd.R_alloc | apply Kd.R_drewN | apply Kd.R_drew)); exact HO_5.out) hb)
                        have n2_ := Aside0.mk (Kd.R_below (by (with_reducible repeat (first | apply Kd.R_alloc | apply Kd.R_drewN | apply Kd.R_drew)); exact HO_6.out) hb)
                        have n3_ := Aside0.mk (Kd.R_below (by (with_reducible repeat (first | apply Kd.R_alloc | apply Kd.R_drewN | apply Kd.R_drew)); exact HO_7.out) hb)
                        have n4_ := Aside0.mk (below_step (by repeat (first | (with_reducible first | exact HB.out | apply below_alloc | apply pw_below_drewN | apply below_drew1) | exact HB.out)) hb)
                        clear HO_4
                        clear HO_5
                        clear HO_6
                        clear HO_7
                        clear HB
                        have HO_4 := n0_
                        have HO_5 := n1_
                        have HO_6 := n2_
                        have HO_7 := n3_
                        have HB := n4_
                        clear n0_ n1_ n2_ n3_ n4_
                        (try clear hb)
                        (try clear hb2)
                        (try clear hk)
                        (try clear hi)
                        refine hK.out _ _ ⟨HS0_, ((HB.out.cell (World.block_lt_of_cell? w _ hw231_0)).trans hw231_0), ((HB.out.cell (World.block_lt_of_cell? w _ hw231_1)).trans hw231_1), ((HB.out.cell (World.block_lt_of_cell? w _ hw231_2)).trans hw231_2), ((HB.out.cell (World.block_lt_of_cell? w _ hw231_3)).trans hw231_3), ((HB.out.cell (World.block_lt_of_cell? w _ hw231_4)).trans hw231_4), ((HB.out.cell (World.block_lt_of_cell? w _ hw231_5)).trans hw231_5), ((HB.out.cell (World.block_lt_of_cell? w _ hw232_0)).trans hw232_0), ((HB.out.cell (World.block_lt_of_cell? w _ hw232_1)).trans hw232_1), ((HB.out.cell (World.block_lt_of_cell? w _ hw232_2)).trans hw232_2), ((HB.out.cell (World.block_lt_of_cell? w _ hw232_3)).trans hw232_3), ((HB.out.cell (World.block_lt_of_cell? w _ hw232_4)).trans hw232_4), ((HB.out.cell (World.block_lt_of_cell? w _ hw232_5)).trans hw232_5), HS13_, HS14_⟩ (fun hHeld => ?_)
                        clear hK K
                        refine norm_ (a' := ?_) ?_ ?_
                        rotate_left
                        ·
                         show Act.put _ (some 80) _ = _
                         simp only [Act.put, sTA, sS0, sS1, i64_w, i32_w]
                         rfl
                        refine pure_ (i := 29) (N := some 81) (v := ?_) (a' := ?_) #[oT, oT, oT, oT, oT, oT, oT, oT, oT, oT, oT, oT, oT, oT, oT, oT, oT, oT, oT, oT, oT, oT, oT, oT, oT, oT, oT, oT, oT, oT, oF] rfl rfl (any_of HT_.out (by kernel_rfl)) (fun _ _ _ h => h) (Or.inl ⟨by rfl, ?_⟩) ?_ ?_
                        rotate_left
                        ·
                         intro w'
                         go_simp
                         with_reducible rfl
                        rotate_left
                        ·
                         simp only [Act.put, sTA, sS0, sS1, i64_w, i32_w]
                         rfl
                        refine pure_ (i := 30) (N := some 82) (v := ?_) (a' := ?_) #[oT, oT, oT, oT, oT, oT, oT, oT, oT, oT, oT, oT, oT, oT, oT, oT, oT, oT, oT, oT, oT, oT, oT, oT, oT, oT, oT, oT, oT, oT, oT] rfl rfl (any_of HT_.out (by kernel_rfl)) (fun _ _ _ h => h) (Or.inl ⟨by rfl, ?_⟩) ?_ ?_
                        rotate_left
                        ·
                         intro w'
                         go_simp
                         with_reducible rfl
                        rotate_left
                        ·
                         simp only [Act.put, sTA, sS0, sS1, i64_w, i32_w]
                         rfl
                        refine done_ (done_of HT_.out (by kernel_rfl)) ?_
                        try go_wp2
                        go_roundg k2
                        case measure => have := HK1.out; have := HK2.out; omega
                        case rel => exact ⟨(x10_2), (wrap64 (x10_2 + 1)), (by first | rfl | (simp; done) | (simp [*]; done)), (by first | rfl | (simp; done) | (simp [*]; done)), H', ⟨by have := HK1.out; have := HK2.out; omega⟩, ⟨by (with_reducible repeat (first | apply Kd.R_alloc | apply Kd.R_drewN | apply Kd.R_drew)); exact HO_4.out⟩, ⟨by (with_reducible repeat (first | apply Kd.R_alloc | apply Kd.R_drewN | apply Kd.R_drew)); exact HO_5.out⟩, ⟨by (with_reducible repeat (first | apply Kd.R_alloc | apply Kd.R_drewN | apply Kd.R_drew)); exact HO_6.out⟩, ⟨by (with_reducible repeat (first | apply Kd.R_alloc | apply Kd.R_drewN | apply Kd.R_drew)); exact HO_7.out⟩, ⟨by repeat (first | (with_reducible first | exact HB.out | apply below_alloc | apply pw_below_drewN | apply below_drew1) | exact HB.out)⟩⟩
                       ·
                        replace c63 := Bool.eq_false_iff.mpr c63
                        subst c63
                        have H1 : (casementref16_Order.l1 k2 l0 t206 t209 x6_1 x7_1 x8_1 x9_2 (wrap64 (x10_2 + 1))) = some (r1, r2) := by rw [if_neg (show ¬ (false = true) by decide)] at H; exact H
                        clear H
                        have H := H1
                        clear H1
                        have H' := Aside0.mk H
                        clear H
                        obtain ⟨Ao69, co69, eo69⟩ := Kd.R_slice HO_4.out
                        subst eo69
                        have p220 : 0 ≤ (x10_2 : Int) := of_decide_eq_true (by assumption)
                        have q220 : x10_2 < (t206.length : Int) := of_decide_eq_true (by assumption)
                        obtain ⟨ad220, e220, hx220_0⟩ := Kd.at_int (Kd.R_reads' HO_4.out).2.2 x10_2 p220 q220
                        cases e220
                        replace p220 := eq_true p220
                        replace q220 := eq_true q220
                        have p227 : 0 ≤ (x10_2 : Int) := of_decide_eq_true (by assumption)
                        have q227 : x10_2 < (t206.length : Int) := of_decide_eq_true (by assumption)
                        obtain ⟨ad227, e227, hx227_0⟩ := Kd.at_int (Kd.R_reads' HO_4.out).2.2 x10_2 p227 q227
                        obtain rfl : ad220 = ad227 := (by injection e227)
                        replace p227 := eq_true p227
                        replace q227 := eq_true q227
                        try go_wp2_with (first | (go_at_call 19; (with_reducible refine (casementref16_Place.calls k2 _ _ l0 (rd t206 x10_2) t228 _ ?side1 ?side2 A43.out).mono ?_); (case side1 => repeat (first | exact (Kd.C_below HR0.out HB.out) | (with_reducible refine Kd.C_alloc ?_ _) | (with_reducible refine Kd.C_drewN ?_ _) | (with_reducible refine Kd.C_drew ?_))); (case side2 => exact HC0.out); rintro e w' ⟨rfl, ⟨nd, rfl⟩⟩; obtain ⟨Ao70, co70, eo70⟩ := Kd.R_slice HO_6.out; subst eo70; have p229 : 0 ≤ (t228 : Int) := of_decide_eq_true (by assumption); have q229 : t228 < (x6_1.length : Int) := of_decide_eq_true (by assumption); obtain ⟨ad229, e229, hx229_0⟩ := Kd.at_bool (Kd.R_reads' HO_6.out).2.2 t228 p229 q229; (try rw [← Nbq47.out] at hx229_0); (try rw [← Nbq52.out] at hx229_0); cases e229; replace p229 := eq_true p229; replace q229 := eq_true q229))
                        (try (rw [drewN_self wr]; generalize hq_ : World.drewN wr _ = wr; have n0_ : Aside0 (Kd.R (Kd.int .i64) 3 wr w.heap.size (fun k_ => some k_ ≠ (v210 : Value).ownBlock ∧ some k_ ≠ (u7 : Value).ownBlock) (.slice (some ad220) t206.length co69) t206) := ⟨by rw [← hq_]; exact (by (with_reducible repeat (first | apply Kd.R_alloc | apply Kd.R_drewN | apply Kd.R_drew)); exact HO_4.out)⟩; have n1_ : Aside0 (Kd.R (Kd.int .i64) 3 wr w.heap.size (fun k_ => some k_ ≠ (.slice (some ad220) t206.length co69 : Value).ownBlock ∧ some k_ ≠ (u7 : Value).ownBlock) v210 t209) := ⟨by rw [← hq_]; exact (by (with_reducible repeat (first | apply Kd.R_alloc | apply Kd.R_drewN | apply Kd.R_drew)); exact HO_5.out)⟩; have n2_ : Aside0 (Kd.R Kd.bool 4 wr w.heap.size (fun _ => True) (.slice (some ad229) x6_1.length co70) x6_1) := ⟨by rw [← hq_]; exact (by (with_reducible repeat (first | apply Kd.R_alloc | apply Kd.R_drewN | apply Kd.R_drew)); exact HO_6.out)⟩; have n3_ : Aside0 (Kd.R (Kd.int .i64) 3 wr w.heap.size (fun k_ => some k_ ≠ (.slice (some ad220) t206.length co69 : Value).ownBlock ∧ some k_ ≠ (v210 : Value).ownBlock) u7 x7_1) := ⟨by rw [← hq_]; exact (by (with_reducible repeat (first | apply Kd.R_alloc | apply Kd.R_drewN | apply Kd.R_drew)); exact HO_7.out)⟩; have n4_ : Aside0 (Below w.heap.size w wr) := ⟨by rw [← hq_]; exact (by repeat (first | (with_reducible first | exact HB.out | apply below_alloc | apply pw_below_drewN | apply below_drew1) | exact HB.out))⟩; clear HO_4 HO_5 HO_6 HO_7 HB hq_; have HO_4 := n0_; have HO_5 := n1_; have HO_6 := n2_; have HO_7 := n3_; have HB := n4_; clear n0_ n1_ n2_ n3_ n4_))
                        have n0_ := Aside0.mk (Kd.R_drew HO_4.out)
                        have n1_ := Aside0.mk (Kd.R_drew HO_5.out)
                        have n2_ := Aside0.mk (Kd.R_drew HO_6.out)
                        have n3_ := Aside0.mk (Kd.R_drew HO_7.out)
                        have n4_ := Aside0.mk (below_drew1 HB.out)
                        clear HO_4
                        clear HO_5
                        clear HO_6
                        clear HO_7
                        clear HB
                        have HO_4 := n0_
                        have HO_5 := n1_
                        have HO_6 := n2_
                        have HO_7 := n3_
                        have HB := n4_
                        clear n0_ n1_ n2_ n3_ n4_
                        have p230 : 0 ≤ (x10_2 : Int) := of_decide_eq_true (by assumption)
                        have q230 : x10_2 < (x6_1.length : Int) := of_decide_eq_true (by assumption)
                        obtain ⟨ad230, e230, hx230_0⟩ := Kd.at_bool (Kd.R_reads' HO_6.out).2.2 x10_2 p230 q230
                        (try rw [← Nbq47.out] at hx230_0)
                        (try rw [← Nbq52.out] at hx230_0)
                        obtain rfl : ad229 = ad230 := (by injection e230)
                        replace p230 := eq_true p230
                        replace q230 := eq_true q230
                        have p231 : 0 ≤ (x10_2 : Int) := of_decide_eq_true (by assumption)
                        have q231 : x10_2 < (l0.length : Int) := of_decide_eq_true (by assumption)
                        obtain ⟨ad231, e231, hx231_0, hx231_1, hx231_2, hx231_3, hx231_4, hx231_5⟩ := at_T38 HR0.out x10_2 p231 q231
                        have hw231_5 := hx231_5
                        have hw231_4 := hx231_4
                        have hw231_3 := hx231_3
                        have hw231_2 := hx231_2
                        have hw231_1 := hx231_1
                        have hw231_0 := hx231_0
                        (try rw [← Nbq47.out] at hx231_3)
                        (try rw [← Nbq47.out] at hw231_3)
                        (try rw [← Nbq52.out] at hx231_3)
                        (try rw [← Nbq52.out] at hw231_3)
                        cases e231
                        replace hx231_0 := (HB.out.cell (World.block_lt_of_cell? w _ hx231_0)).trans hx231_0
                        replace hx231_1 := (HB.out.cell (World.block_lt_of_cell? w _ hx231_1)).trans hx231_1
                        replace hx231_2 := (HB.out.cell (World.block_lt_of_cell? w _ hx231_2)).trans hx231_2
                        replace hx231_3 := (HB.out.cell (World.block_lt_of_cell? w _ hx231_3)).trans hx231_3
                        replace hx231_4 := (HB.out.cell (World.block_lt_of_cell? w _ hx231_4)).trans hx231_4
                        replace hx231_5 := (HB.out.cell (World.block_lt_of_cell? w _ hx231_5)).trans hx231_5
                        replace p231 := eq_true p231
                        replace q231 := eq_true q231
                        have p232 : 0 ≤ (x9_2 : Int) := of_decide_eq_true (by assumption)
                        have q232 : x9_2 < (l0.length : Int) := of_decide_eq_true (by assumption)
                        obtain ⟨ad232, e232, hx232_0, hx232_1, hx232_2, hx232_3, hx232_4, hx232_5⟩ := at_T38 HR0.out x9_2 p232 q232
                        have hw232_5 := hx232_5
                        have hw232_4 := hx232_4
                        have hw232_3 := hx232_3
                        have hw232_2 := hx232_2
                        have hw232_1 := hx232_1
                        have hw232_0 := hx232_0
                        (try rw [← Nbq47.out] at hx232_3)
                        (try rw [← Nbq47.out] at hw232_3)
                        (try rw [← Nbq52.out] at hx232_3)
                        (try rw [← Nbq52.out] at hw232_3)
                        obtain rfl : ad231 = ad232 := (by injection e232)
                        replace hx232_0 := (HB.out.cell (World.block_lt_of_cell? w _ hx232_0)).trans hx232_0
                        replace hx232_1 := (HB.out.cell (World.block_lt_of_cell? w _ hx232_1)).trans hx232_1
                        replace hx232_2 := (HB.out.cell (World.block_lt_of_cell? w _ hx232_2)).trans hx232_2
                        replace hx232_3 := (HB.out.cell (World.block_lt_of_cell? w _ hx232_3)).trans hx232_3
                        replace hx232_4 := (HB.out.cell (World.block_lt_of_cell? w _ hx232_4)).trans hx232_4
                        replace hx232_5 := (HB.out.cell (World.block_lt_of_cell? w _ hx232_5)).trans hx232_5
                        replace p232 := eq_true p232
                        replace q232 := eq_true q232
                        obtain ⟨Ao72, co72, eo72⟩ := Kd.R_slice HO_5.out
                        (first | subst eo72 | (injection eo72 with f1_ f2_ f3_; have f4_ := f1_.symm; have f5_ := f3_.symm; clear f1_ f2_ f3_; subst f4_; subst f5_))
                        have p233 : 0 ≤ (x10_2 : Int) := of_decide_eq_true (by assumption)
                        have q233 : x10_2 < (t209.length : Int) := of_decide_eq_true (by assumption)
                        obtain ⟨ad233, e233, hx233_0⟩ := Kd.at_int (Kd.R_reads' HO_5.out).2.2 x10_2 p233 q233
                        cases e233
                        replace p233 := eq_true p233
                        replace q233 := eq_true q233
                        have p234 : 0 ≤ (x9_2 : Int) := of_decide_eq_true (by assumption)
                        have q234 : x9_2 < (t209.length : Int) := of_decide_eq_true (by assumption)
                        obtain ⟨ad234, e234, hx234_0⟩ := Kd.at_int (Kd.R_reads' HO_5.out).2.2 x9_2 p234 q234
                        obtain rfl : ad233 = ad234 := (by injection e234)
                        replace p234 := eq_true p234
                        replace q234 := eq_true q234
                        refine start_ (n := 31) (S := fun w' => w'.cell? (ad229.add (x10_2).toNat) = some (.bool false) ∧ w'.cell? (ad231.add ((x10_2).toNat * 6)) = some (.int .i64 ((rd_T38 l0 x10_2).f0)) ∧ w'.cell? ⟨(ad231.add ((x10_2).toNat * 6)).block, (ad231.add ((x10_2).toNat * 6)).off + 1, none⟩ = some (.int .i64 ((rd_T38 l0 x10_2).f1)) ∧ w'.cell? ⟨(ad231.add ((x10_2).toNat * 6)).block, (ad231.add ((x10_2).toNat * 6)).off + 2, none⟩ = some (.int .i64 ((rd_T38 l0 x10_2).f2)) ∧ w'.cell? ⟨(ad231.add ((x10_2).toNat * 6)).block, (ad231.add ((x10_2).toNat * 6)).off + 3, none⟩ = some (.bool ((rd_T38 l0 x10_2).f3)) ∧ w'.cell? ⟨(ad231.add ((x10_2).toNat * 6)).block, (ad231.add ((x10_2).toNat * 6)).off + 4, none⟩ = some (.int .i64 ((rd_T38 l0 x10_2).f4)) ∧ w'.cell? ⟨(ad231.add ((x10_2).toNat * 6)).block, (ad231.add ((x10_2).toNat * 6)).off + 5, none⟩ = some (.int .i64 ((rd_T38 l0 x10_2).f5)) ∧ w'.cell? (ad231.add ((x9_2).toNat * 6)) = some (.int .i64 ((rd_T38 l0 x9_2).f0)) ∧ w'.cell? ⟨(ad231.add ((x9_2).toNat * 6)).block, (ad231.add ((x9_2).toNat * 6)).off + 1, none⟩ = some (.int .i64 ((rd_T38 l0 x9_2).f1)) ∧ w'.cell? ⟨(ad231.add ((x9_2).toNat * 6)).block, (ad231.add ((x9_2).toNat * 6)).off + 2, none⟩ = some (.int .i64 ((rd_T38 l0 x9_2).f2)) ∧ w'.cell? ⟨(ad231.add ((x9_2).toNat * 6)).block, (ad231.add ((x9_2).toNat * 6)).off + 3, none⟩ = some (.bool ((rd_T38 l0 x9_2).f3)) ∧ w'.cell? ⟨(ad231.add ((x9_2).toNat * 6)).block, (ad231.add ((x9_2).toNat * 6)).off + 4, none⟩ = some (.int .i64 ((rd_T38 l0 x9_2).f4)) ∧ w'.cell? ⟨(ad231.add ((x9_2).toNat * 6)).block, (ad231.add ((x9_2).toNat * 6)).off + 5, none⟩ = some (.int .i64 ((rd_T38 l0 x9_2).f5)) ∧ w'.cell? (ad233.add (x10_2).toNat) = some (.int .i64 (rd t209 x10_2)) ∧ w'.cell? (ad233.add (x9_2).toNat) = some (.int .i64 (rd t209 x9_2))) (ds := []) #[oF, oF, oF, oF, oF, oF, oF, oF, oF, oF, oF, oF, oF, oF, oF, oF, oF, oF, oF, oF, oF, oF, oF, oF, oF, oF, oF, oF, oF, oF, oF] (by kernel_rfl) rfl rfl ⟨hx230_0, ((HB.out.cell (World.block_lt_of_cell? w _ hw231_0)).trans hw231_0), ((HB.out.cell (World.block_lt_of_cell? w _ hw231_1)).trans hw231_1), ((HB.out.cell (World.block_lt_of_cell? w _ hw231_2)).trans hw231_2), ((HB.out.cell (World.block_lt_of_cell? w _ hw231_3)).trans hw231_3), ((HB.out.cell (World.block_lt_of_cell? w _ hw231_4)).trans hw231_4), ((HB.out.cell (World.block_lt_of_cell? w _ hw231_5)).trans hw231_5), ((HB.out.cell (World.block_lt_of_cell? w _ hw232_0)).trans hw232_0), ((HB.out.cell (World.block_lt_of_cell? w _ hw232_1)).trans hw232_1), ((HB.out.cell (World.block_lt_of_cell? w _ hw232_2)).trans hw232_2), ((HB.out.cell (World.block_lt_of_cell? w _ hw232_3)).trans hw232_3), ((HB.out.cell (World.block_lt_of_cell? w _ hw232_4)).trans hw232_4), ((HB.out.cell (World.block_lt_of_cell? w _ hw232_5)).trans hw232_5), hx233_0, hx234_0⟩ (fun hHeld => ?_); refine with_tabW casementref16_Order.tab14 casementref16_Order.bits14 (fun HT_ HW_ => ?_)
                        generalize wr.drew = w71 at HO_4 HO_5 HO_6 HO_7 HB hx230_0 hx231_0 hx231_1 hx231_2 hx231_3 hx231_4 hx231_5 hx232_0 hx232_1 hx232_2 hx232_3 hx232_4 hx232_5 hx233_0 hx234_0 hHeld ⊢
                        refine pure_ (i := 0) (N := some 52) (v := ?_) (a' := ?_) #[oT, oF, oF, oF, oF, oF, oF, oF, oF, oF, oF, oF, oF, oF, oF, oF, oF, oF, oF, oF, oF, oF, oF, oF, oF, oF, oF, oF, oF, oF, oF] rfl rfl (any_of HT_.out (by kernel_rfl)) (fun _ _ _ h => h) (Or.inl ⟨by rfl, ?_⟩) ?_ ?_
                        rotate_left
                        ·
                         intro w'
                         go_simp
                         with_reducible rfl
                        rotate_left
                        ·
                         simp only [Act.put, sTA, sS0, sS1, i64_w, i32_w]
                         rfl
                        refine pure_ (i := 1) (N := some 53) (v := ?_) (a' := ?_) #[oT, oT, oF, oF, oF, oF, oF, oF, oF, oF, oF, oF, oF, oF, oF, oF, oF, oF, oF, oF, oF, oF, oF, oF, oF, oF, oF, oF, oF, oF, oF] rfl rfl (any_of HT_.out (by kernel_rfl)) (fun _ _ _ h => h) (Or.inl ⟨by rfl, ?_⟩) ?_ ?_
                        rotate_left
                        ·
                         intro w'
                         go_simp
                         with_reducible rfl
                        rotate_left
                        ·
                         simp only [Act.put, sTA, sS0, sS1, i64_w, i32_w]
                         rfl
                        refine pure_ (i := 2) (N := some 54) (v := ?_) (a' := ?_) #[oT, oT, oT, oF, oF, oF, oF, oF, oF, oF, oF, oF, oF, oF, oF, oF, oF, oF, oF, oF, oF, oF, oF, oF, oF, oF, oF, oF, oF, oF, oF] rfl rfl (any_of HT_.out (by kernel_rfl)) (fun _ _ _ h => h) (Or.inl ⟨by rfl, ?_⟩) ?_ ?_
                        rotate_left
                        ·
                         intro w'
                         go_simp
                         with_reducible rfl
                        rotate_left
                        ·
                         simp only [Act.put, sTA, sS0, sS1, i64_w, i32_w]
                         rfl
                        refine take_ (i := 3) (N := some 55) (v := ?_) (a' := ?_) #[oT, oT, oT, oT, oF, oF, oF, oF, oF, oF, oF, oF, oF, oF, oF, oF, oF, oF, oF, oF, oF, oF, oF, oF, oF, oF, oF, oF, oF, oF, oF] rfl rfl (take_ofW HT_.out HW_.out (by kernel_rfl)) (fun _ _ _ h => h) (Or.inl ⟨by rfl, ?_⟩) hHeld ?_ ?_
                        rotate_left
                        ·
                         rintro w' ⟨s0, s1, s2, s3, s4, s5, s6, s7, s8, s9, s10, s11, s12, s13, s14⟩
                         go_simp
                         with_reducible rfl
                        rotate_left
                        ·
                         simp only [Act.put, sTA, sS0, sS1, i64_w, i32_w]
                         rfl
                        refine pure_ (i := 4) (N := some 56) (v := ?_) (a' := ?_) #[oT, oT, oT, oT, oT, oF, oF, oF, oF, oF, oF, oF, oF, oF, oF, oF, oF, oF, oF, oF, oF, oF, oF, oF, oF, oF, oF, oF, oF, oF, oF] rfl rfl (any_of HT_.out (by kernel_rfl)) (fun _ _ _ h => h) (Or.inl ⟨by rfl, ?_⟩) ?_ ?_
                        rotate_left
                        ·
                         intro w'
                         go_simp
                         with_reducible rfl
                        rotate_left
                        ·
                         simp only [Act.put, sTA, sS0, sS1, i64_w, i32_w]
                         rfl
                        refine pure_ (i := 5) (N := some 57) (v := ?_) (a' := ?_) #[oT, oT, oT, oT, oT, oT, oF, oF, oF, oF, oF, oF, oF, oF, oF, oF, oF, oF, oF, oF, oF, oF, oF, oF, oF, oF, oF, oF, oF, oF, oF] rfl rfl (any_of HT_.out (by kernel_rfl)) (fun _ _ _ h => h) (Or.inl ⟨by rfl, ?_⟩) ?_ ?_
                        rotate_left
                        ·
                         intro w'
                         go_simp
                         with_reducible rfl
                        rotate_left
                        ·
                         simp only [Act.put, sTA, sS0, sS1, i64_w, i32_w]
                         rfl
                        refine pure_ (i := 6) (N := some 58) (v := ?_) (a' := ?_) #[oT, oT, oT, oT, oT, oT, oT, oF, oF, oF, oF, oF, oF, oF, oF, oF, oF, oF, oF, oF, oF, oF, oF, oF, oF, oF, oF, oF, oF, oF, oF] rfl rfl (any_of HT_.out (by kernel_rfl)) (fun _ _ _ h => h) (Or.inl ⟨by rfl, ?_⟩) ?_ ?_
                        rotate_left
                        ·
                         intro w'
                         go_simp
                         with_reducible rfl
                        rotate_left
                        ·
                         simp only [Act.put, sTA, sS0, sS1, i64_w, i32_w]
                         rfl
                        refine pure_ (i := 7) (N := some 59) (v := ?_) (a' := ?_) #[oT, oT, oT, oT, oT, oT, oT, oT, oF, oF, oF, oF, oF, oF, oF, oF, oF, oF, oF, oF, oF, oF, oF, oF, oF, oF, oF, oF, oF, oF, oF] rfl rfl (any_of HT_.out (by kernel_rfl)) (fun _ _ _ h => h) (Or.inl ⟨by rfl, ?_⟩) ?_ ?_
                        rotate_left
                        ·
                         intro w'
                         go_simp
                         with_reducible rfl
                        rotate_left
                        ·
                         simp only [Act.put, sTA, sS0, sS1, i64_w, i32_w]
                         rfl
                        refine pure_ (i := 8) (N := some 60) (v := ?_) (a' := ?_) #[oT, oT, oT, oT, oT, oT, oT, oT, oT, oF, oF, oF, oF, oF, oF, oF, oF, oF, oF, oF, oF, oF, oF, oF, oF, oF, oF, oF, oF, oF, oF] rfl rfl (any_of HT_.out (by kernel_rfl)) (fun _ _ _ h => h) (Or.inl ⟨by rfl, ?_⟩) ?_ ?_
                        rotate_left
                        ·
                         intro w'
                         go_simp
                         with_reducible rfl
                        rotate_left
                        ·
                         simp only [Act.put, sTA, sS0, sS1, i64_w, i32_w]
                         rfl
                        refine pure_ (i := 9) (N := some 61) (v := ?_) (a' := ?_) #[oT, oT, oT, oT, oT, oT, oT, oT, oT, oT, oF, oF, oF, oF, oF, oF, oF, oF, oF, oF, oF, oF, oF, oF, oF, oF, oF, oF, oF, oF, oF] rfl rfl (any_of HT_.out (by kernel_rfl)) (fun _ _ _ h => h) (Or.inl ⟨by rfl, ?_⟩) ?_ ?_
                        rotate_left
                        ·
                         intro w'
                         go_simp
                         with_reducible rfl
                        rotate_left
                        ·
                         simp only [Act.put, sTA, sS0, sS1, i64_w, i32_w]
                         rfl
                        refine pure_ (i := 10) (N := some 62) (v := ?_) (a' := ?_) #[oT, oT, oT, oT, oT, oT, oT, oT, oT, oT, oT, oF, oF, oF, oF, oF, oF, oF, oF, oF, oF, oF, oF, oF, oF, oF, oF, oF, oF, oF, oF] rfl rfl (any_of HT_.out (by kernel_rfl)) (fun _ _ _ h => h) (Or.inl ⟨by rfl, ?_⟩) ?_ ?_
                        rotate_left
                        ·
                         intro w'
                         go_simp
                         with_reducible rfl
                        rotate_left
                        ·
                         simp only [Act.put, sTA, sS0, sS1, i64_w, i32_w]
                         rfl
                        refine pure_ (i := 11) (N := some 63) (v := ?_) (a' := ?_) #[oT, oT, oT, oT, oT, oT, oT, oT, oT, oT, oT, oT, oF, oF, oF, oF, oF, oF, oF, oF, oF, oF, oF, oF, oF, oF, oF, oF, oF, oF, oF] rfl rfl (any_of HT_.out (by kernel_rfl)) (fun _ _ _ h => h) (Or.inl ⟨by rfl, ?_⟩) ?_ ?_
                        rotate_left
                        ·
                         intro w'
                         go_simp
                         with_reducible rfl
                        rotate_left
                        ·
                         simp only [Act.put, sTA, sS0, sS1, i64_w, i32_w]
                         rfl
                        refine pure_ (i := 12) (N := some 64) (v := ?_) (a' := ?_) #[oT, oT, oT, oT, oT, oT, oT, oT, oT, oT, oT, oT, oT, oF, oF, oF, oF, oF, oF, oF, oF, oF, oF, oF, oF, oF, oF, oF, oF, oF, oF] rfl rfl (any_of HT_.out (by kernel_rfl)) (fun _ _ _ h => h) (Or.inl ⟨by rfl, ?_⟩) ?_ ?_
                        rotate_left
                        ·
                         intro w'
                         go_simp
                         with_reducible rfl
                        rotate_left
                        ·
                         simp only [Act.put, sTA, sS0, sS1, i64_w, i32_w]
                         rfl
                        refine pure_ (i := 13) (N := some 65) (v := ?_) (a' := ?_) #[oT, oT, oT, oT, oT, oT, oT, oT, oT, oT, oT, oT, oT, oT, oF, oF, oF, oF, oF, oF, oF, oF, oF, oF, oF, oF, oF, oF, oF, oF, oF] rfl rfl (any_of HT_.out (by kernel_rfl)) (fun _ _ _ h => h) (Or.inl ⟨by rfl, ?_⟩) ?_ ?_
                        rotate_left
                        ·
                         intro w'
                         go_simp
                         with_reducible rfl
                        rotate_left
                        ·
                         simp only [Act.put, sTA, sS0, sS1, i64_w, i32_w]
                         rfl
                        refine pure_ (i := 14) (N := some 66) (v := ?_) (a' := ?_) #[oT, oT, oT, oT, oT, oT, oT, oT, oT, oT, oT, oT, oT, oT, oT, oF, oF, oF, oF, oF, oF, oF, oF, oF, oF, oF, oF, oF, oF, oF, oF] rfl rfl (any_of HT_.out (by kernel_rfl)) (fun _ _ _ h => h) (Or.inl ⟨by rfl, ?_⟩) ?_ ?_
                        rotate_left
                        ·
                         intro w'
                         go_simp
                         with_reducible rfl
                        rotate_left
                        ·
                         simp only [Act.put, sTA, sS0, sS1, i64_w, i32_w]
                         rfl
                        refine pure_ (i := 16) (N := some 68) (v := ?_) (a' := ?_) #[oT, oT, oT, oT, oT, oT, oT, oT, oT, oT, oT, oT, oT, oT, oT, oF, oT, oF, oF, oF, oF, oF, oF, oF, oF, oF, oF, oF, oF, oF, oF] rfl rfl (any_of HT_.out (by kernel_rfl)) (fun _ _ _ h => h) (Or.inl ⟨by rfl, ?_⟩) ?_ ?_
                        rotate_left
                        ·
                         intro w'
                         go_simp
                         with_reducible rfl
                        rotate_left
                        ·
                         simp only [Act.put, sTA, sS0, sS1, i64_w, i32_w]
                         rfl
                        refine pure_ (i := 17) (N := some 69) (v := ?_) (a' := ?_) #[oT, oT, oT, oT, oT, oT, oT, oT, oT, oT, oT, oT, oT, oT, oT, oF, oT, oT, oF, oF, oF, oF, oF, oF, oF, oF, oF, oF, oF, oF, oF] rfl rfl (any_of HT_.out (by kernel_rfl)) (fun _ _ _ h => h) (Or.inl ⟨by rfl, ?_⟩) ?_ ?_
                        rotate_left
                        ·
                         intro w'
                         go_simp
                         with_reducible rfl
                        rotate_left
                        ·
                         simp only [Act.put, sTA, sS0, sS1, i64_w, i32_w]
                         rfl
                        refine pure_ (i := 18) (N := some 70) (v := ?_) (a' := ?_) #[oT, oT, oT, oT, oT, oT, oT, oT, oT, oT, oT, oT, oT, oT, oT, oF, oT, oT, oT, oF, oF, oF, oF, oF, oF, oF, oF, oF, oF, oF, oF] rfl rfl (any_of HT_.out (by kernel_rfl)) (fun _ _ _ h => h) (Or.inl ⟨by rfl, ?_⟩) ?_ ?_
                        rotate_left
                        ·
                         intro w'
                         go_simp
                         with_reducible rfl
                        rotate_left
                        ·
                         simp only [Act.put, sTA, sS0, sS1, i64_w, i32_w]
                         rfl
                        refine pure_ (i := 20) (N := some 72) (v := ?_) (a' := ?_) #[oT, oT, oT, oT, oT, oT, oT, oT, oT, oT, oT, oT, oT, oT, oT, oF, oT, oT, oT, oF, oT, oF, oF, oF, oF, oF, oF, oF, oF, oF, oF] rfl rfl (any_of HT_.out (by kernel_rfl)) (fun _ _ _ h => h) (Or.inl ⟨by rfl, ?_⟩) ?_ ?_
                        rotate_left
                        ·
                         intro w'
                         go_simp
                         with_reducible rfl
                        rotate_left
                        ·
                         simp only [Act.put, sTA, sS0, sS1, i64_w, i32_w]
                         rfl
                        refine pure_ (i := 21) (N := some 73) (v := ?_) (a' := ?_) #[oT, oT, oT, oT, oT, oT, oT, oT, oT, oT, oT, oT, oT, oT, oT, oF, oT, oT, oT, oF, oT, oT, oF, oF, oF, oF, oF, oF, oF, oF, oF] rfl rfl (any_of HT_.out (by kernel_rfl)) (fun _ _ _ h => h) (Or.inl ⟨by rfl, ?_⟩) ?_ ?_
                        rotate_left
                        ·
                         intro w'
                         go_simp
                         with_reducible rfl
                        rotate_left
                        ·
                         simp only [Act.put, sTA, sS0, sS1, i64_w, i32_w]
                         rfl
                        refine pure_ (i := 22) (N := some 74) (v := ?_) (a' := ?_) #[oT, oT, oT, oT, oT, oT, oT, oT, oT, oT, oT, oT, oT, oT, oT, oF, oT, oT, oT, oF, oT, oT, oT, oF, oF, oF, oF, oF, oF, oF, oF] rfl rfl (any_of HT_.out (by kernel_rfl)) (fun _ _ _ h => h) (Or.inl ⟨by rfl, ?_⟩) ?_ ?_
                        rotate_left
                        ·
                         intro w'
                         go_simp
                         with_reducible rfl
                        rotate_left
                        ·
                         simp only [Act.put, sTA, sS0, sS1, i64_w, i32_w]
                         rfl
                        refine pure_ (i := 24) (N := some 76) (v := ?_) (a' := ?_) #[oT, oT, oT, oT, oT, oT, oT, oT, oT, oT, oT, oT, oT, oT, oT, oF, oT, oT, oT, oF, oT, oT, oT, oF, oT, oF, oF, oF, oF, oF, oF] rfl rfl (any_of HT_.out (by kernel_rfl)) (fun _ _ _ h => h) (Or.inl ⟨by rfl, ?_⟩) ?_ ?_
                        rotate_left
                        ·
                         intro w'
                         go_simp
                         with_reducible rfl
                        rotate_left
                        ·
                         simp only [Act.put, sTA, sS0, sS1, i64_w, i32_w]
                         rfl
                        refine pure_ (i := 25) (N := some 77) (v := ?_) (a' := ?_) #[oT, oT, oT, oT, oT, oT, oT, oT, oT, oT, oT, oT, oT, oT, oT, oF, oT, oT, oT, oF, oT, oT, oT, oF, oT, oT, oF, oF, oF, oF, oF] rfl rfl (any_of HT_.out (by kernel_rfl)) (fun _ _ _ h => h) (Or.inl ⟨by rfl, ?_⟩) ?_ ?_
                        rotate_left
                        ·
                         intro w'
                         go_simp
                         with_reducible rfl
                        rotate_left
                        ·
                         simp only [Act.put, sTA, sS0, sS1, i64_w, i32_w]
                         rfl
                        refine pure_ (i := 26) (N := some 78) (v := ?_) (a' := ?_) #[oT, oT, oT, oT, oT, oT, oT, oT, oT, oT, oT, oT, oT, oT, oT, oF, oT, oT, oT, oF, oT, oT, oT, oF, oT, oT, oT, oF, oF, oF, oF] rfl rfl (any_of HT_.out (by kernel_rfl)) (fun _ _ _ h => h) (Or.inl ⟨by rfl, ?_⟩) ?_ ?_
                        rotate_left
                        ·
                         intro w'
                         go_simp
                         with_reducible rfl
                        rotate_left
                        ·
                         simp only [Act.put, sTA, sS0, sS1, i64_w, i32_w]
                         rfl
                        refine take_ (i := 15) (N := some 67) (v := ?_) (a' := ?_) #[oT, oT, oT, oT, oT, oT, oT, oT, oT, oT, oT, oT, oT, oT, oT, oT, oT, oT, oT, oF, oT, oT, oT, oF, oT, oT, oT, oF, oF, oF, oF] rfl rfl (take_ofW HT_.out HW_.out (by kernel_rfl)) (fun _ _ _ h => h) (Or.inl ⟨by rfl, ?_⟩) hHeld ?_ ?_
                        rotate_left
                        ·
                         rintro w' ⟨s0, s1, s2, s3, s4, s5, s6, s7, s8, s9, s10, s11, s12, s13, s14⟩
                         go_simp
                         with_reducible rfl
                        rotate_left
                        ·
                         simp only [Act.put, sTA, sS0, sS1, i64_w, i32_w]
                         rfl
                        refine take_ (i := 19) (N := some 71) (v := ?_) (a' := ?_) #[oT, oT, oT, oT, oT, oT, oT, oT, oT, oT, oT, oT, oT, oT, oT, oT, oT, oT, oT, oT, oT, oT, oT, oF, oT, oT, oT, oF, oF, oF, oF] rfl rfl (take_ofW HT_.out HW_.out (by kernel_rfl)) (fun _ _ _ h => h) (Or.inl ⟨by rfl, ?_⟩) hHeld ?_ ?_
                        rotate_left
                        ·
                         rintro w' ⟨s0, s1, s2, s3, s4, s5, s6, s7, s8, s9, s10, s11, s12, s13, s14⟩
                         go_simp
                         with_reducible rfl
                        rotate_left
                        ·
                         simp only [Act.put, sTA, sS0, sS1, i64_w, i32_w]
                         rfl
                        refine take_ (i := 23) (N := some 75) (v := ?_) (a' := ?_) #[oT, oT, oT, oT, oT, oT, oT, oT, oT, oT, oT, oT, oT, oT, oT, oT, oT, oT, oT, oT, oT, oT, oT, oT, oT, oT, oT, oF, oF, oF, oF] rfl rfl (take_ofW HT_.out HW_.out (by kernel_rfl)) (fun _ _ _ h => h) (Or.inl ⟨by rfl, ?_⟩) hHeld ?_ ?_
                        rotate_left
                        ·
                         rintro w' ⟨s0, s1, s2, s3, s4, s5, s6, s7, s8, s9, s10, s11, s12, s13, s14⟩
                         go_simp
                         with_reducible rfl
                        rotate_left
                        ·
                         simp only [Act.put, sTA, sS0, sS1, i64_w, i32_w]
                         rfl
                        refine take_ (i := 27) (N := some 79) (v := ?_) (a' := ?_) #[oT, oT, oT, oT, oT, oT, oT, oT, oT, oT, oT, oT, oT, oT, oT, oT, oT, oT, oT, oT, oT, oT, oT, oT, oT, oT, oT, oT, oF, oF, oF] rfl rfl (take_ofW HT_.out HW_.out (by kernel_rfl)) (fun _ _ _ h => h) (Or.inl ⟨by rfl, ?_⟩) hHeld ?_ ?_
                        rotate_left
                        ·
                         rintro w' ⟨s0, s1, s2, s3, s4, s5, s6, s7, s8, s9, s10, s11, s12, s13, s14⟩
                         go_simp
                         with_reducible rfl
                        rotate_left
                        ·
                         simp only [Act.put, sTA, sS0, sS1, i64_w, i32_w]
                         rfl
                        refine one_ (i := 28) (N := some 80) #[oT, oT, oT, oT, oT, oT, oT, oT, oT, oT, oT, oT, oT, oT, oT, oT, oT, oT, oT, oT, oT, oT, oT, oT, oT, oT, oT, oT, oT, oF, oF] rfl rfl (one_of HT_.out (by kernel_rfl)) (by decide) (fun K hK => ?_)
                        refine goes_ Try.func34 (by kernel_rfl) rfl #[.agg #[.int .i64 ((rd_T38 l0 x10_2).f0), .int .i64 ((rd_T38 l0 x10_2).f1), .int .i64 ((rd_T38 l0 x10_2).f2), .bool ((rd_T38 l0 x10_2).f3), .int .i64 ((rd_T38 l0 x10_2).f4), .int .i64 ((rd_T38 l0 x10_2).f5)], .agg #[.int .i64 ((rd_T38 l0 x9_2).f0), .int .i64 ((rd_T38 l0 x9_2).f1), .int .i64 ((rd_T38 l0 x9_2).f2), .bool ((rd_T38 l0 x9_2).f3), .int .i64 ((rd_T38 l0 x9_2).f4), .int .i64 ((rd_T38 l0 x9_2).f5)], .int .i64 (rd t209 x10_2), .int .i64 (rd t209 x9_2)] (by rfl) rfl rfl (by (try simp only [List.map_toArray, List.map_cons, List.map_nil]); first | done | rfl | (simp only [List.length_drop, List.length_take]; rfl)) ?_
                        with_reducible refine (casementref16_lower.calls ((rd_T38 l0 x10_2).f0) ((rd_T38 l0 x10_2).f1) ((rd_T38 l0 x10_2).f2) ((rd_T38 l0 x10_2).f3) ((rd_T38 l0 x10_2).f4) ((rd_T38 l0 x10_2).f5) ((rd_T38 l0 x9_2).f0) ((rd_T38 l0 x9_2).f1) ((rd_T38 l0 x9_2).f2) ((rd_T38 l0 x9_2).f3) ((rd_T38 l0 x9_2).f4) ((rd_T38 l0 x9_2).f5) (rd t209 x10_2) (rd t209 x9_2) false _ A62.out).mono ?_
                        rintro e w73 ⟨rfl, hb⟩
                        have HS0_ := (hb.cell (World.block_lt_of_cell? _ _ (hHeld.1))).trans (hHeld.1)
                        have HS13_ := (hb.cell (World.block_lt_of_cell? _ _ (hHeld.2.2.2.2.2.2.2.2.2.2.2.2.2.1))).trans (hHeld.2.2.2.2.2.2.2.2.2.2.2.2.2.1)
                        have HS14_ := (hb.cell (World.block_lt_of_cell? _ _ (hHeld.2.2.2.2.2.2.2.2.2.2.2.2.2.2))).trans (hHeld.2.2.2.2.2.2.2.2.2.2.2.2.2.2)
                        refine ⟨_, rfl, ?_⟩
                        have n0_ := Aside0.mk (Kd.R_below (by (with_reducible repeat (first | apply Kd.R_alloc | apply Kd.R_drewN | apply Kd.R_drew)); exact HO_4.out) hb)
                        have n1_ := Aside0.mk (Kd.R_below (by (with_reducible repeat (first | apply Kd.R_alloc | apply Kd.R_drewN | apply Kd.R_drew)); exact HO_5.out) hb)
                        have n2_ := Aside0.mk (Kd.R_below (by (with_reducible repeat (first | apply Kd.R_alloc | apply Kd.R_drewN | apply Kd.R_drew)); exact HO_6.out) hb)
                        have n3_ := Aside0.mk (Kd.R_below (by (with_reducible repeat (first | apply Kd.R_alloc | apply Kd.R_drewN | apply Kd.R_drew)); exact HO_7.out) hb)
                        have n4_ := Aside0.mk (below_step (by repeat (first | (with_reducible first | exact HB.out | apply below_alloc | apply pw_below_drewN | apply below_drew1) | exact HB.out)) hb)
                        clear HO_4
                        clear HO_5
                        clear HO_6
                        clear HO_7
                        clear HB
                        have HO_4 := n0_
                        have HO_5 := n1_
                        have HO_6 := n2_
                        have HO_7 := n3_
                        have HB := n4_
                        clear n0_ n1_ n2_ n3_ n4_
                        (try clear hb)
                        (try clear hb2)
                        (try clear hk)
                        (try clear hi)
                        refine hK.out _ _ ⟨HS0_, ((HB.out.cell (World.block_lt_of_cell? w _ hw231_0)).trans hw231_0), ((HB.out.cell (World.block_lt_of_cell? w _ hw231_1)).trans hw231_1), ((HB.out.cell (World.block_lt_of_cell? w _ hw231_2)).trans hw231_2), ((HB.out.cell (World.block_lt_of_cell? w _ hw231_3)).trans hw231_3), ((HB.out.cell (World.block_lt_of_cell? w _ hw231_4)).trans hw231_4), ((HB.out.cell (World.block_lt_of_cell? w _ hw231_5)).trans hw231_5), ((HB.out.cell (World.block_lt_of_cell? w _ hw232_0)).trans hw232_0), ((HB.out.cell (World.block_lt_of_cell? w _ hw232_1)).trans hw232_1), ((HB.out.cell (World.block_lt_of_cell? w _ hw232_2)).trans hw232_2), ((HB.out.cell (World.block_lt_of_cell? w _ hw232_3)).trans hw232_3), ((HB.out.cell (World.block_lt_of_cell? w _ hw232_4)).trans hw232_4), ((HB.out.cell (World.block_lt_of_cell? w _ hw232_5)).trans hw232_5), HS13_, HS14_⟩ (fun hHeld => ?_)
                        clear hK K
                        refine norm_ (a' := ?_) ?_ ?_
                        rotate_left
                        ·
                         show Act.put _ (some 80) _ = _
                         simp only [Act.put, sTA, sS0, sS1, i64_w, i32_w]
                         rfl
                        refine pure_ (i := 29) (N := some 81) (v := ?_) (a' := ?_) #[oT, oT, oT, oT, oT, oT, oT, oT, oT, oT, oT, oT, oT, oT, oT, oT, oT, oT, oT, oT, oT, oT, oT, oT, oT, oT, oT, oT, oT, oT, oF] rfl rfl (any_of HT_.out (by kernel_rfl)) (fun _ _ _ h => h) (Or.inl ⟨by rfl, ?_⟩) ?_ ?_
                        rotate_left
                        ·
                         intro w'
                         go_simp
                         with_reducible rfl
                        rotate_left
                        ·
                         simp only [Act.put, sTA, sS0, sS1, i64_w, i32_w]
                         rfl
                        refine pure_ (i := 30) (N := some 82) (v := ?_) (a' := ?_) #[oT, oT, oT, oT, oT, oT, oT, oT, oT, oT, oT, oT, oT, oT, oT, oT, oT, oT, oT, oT, oT, oT, oT, oT, oT, oT, oT, oT, oT, oT, oT] rfl rfl (any_of HT_.out (by kernel_rfl)) (fun _ _ _ h => h) (Or.inl ⟨by rfl, ?_⟩) ?_ ?_
                        rotate_left
                        ·
                         intro w'
                         go_simp
                         with_reducible rfl
                        rotate_left
                        ·
                         simp only [Act.put, sTA, sS0, sS1, i64_w, i32_w]
                         rfl
                        refine done_ (done_of HT_.out (by kernel_rfl)) ?_
                        try go_wp2
                        go_roundg k2
                        case measure => have := HK1.out; have := HK2.out; omega
                        case rel => exact ⟨(x9_2), (wrap64 (x10_2 + 1)), (by first | rfl | (simp; done) | (simp [*]; done)), (by first | rfl | (simp; done) | (simp [*]; done)), H', ⟨by have := HK1.out; have := HK2.out; omega⟩, ⟨by (with_reducible repeat (first | apply Kd.R_alloc | apply Kd.R_drewN | apply Kd.R_drew)); exact HO_4.out⟩, ⟨by (with_reducible repeat (first | apply Kd.R_alloc | apply Kd.R_drewN | apply Kd.R_drew)); exact HO_5.out⟩, ⟨by (with_reducible repeat (first | apply Kd.R_alloc | apply Kd.R_drewN | apply Kd.R_drew)); exact HO_6.out⟩, ⟨by (with_reducible repeat (first | apply Kd.R_alloc | apply Kd.R_drewN | apply Kd.R_drew)); exact HO_7.out⟩, ⟨by repeat (first | (with_reducible first | exact HB.out | apply below_alloc | apply pw_below_drewN | apply below_drew1) | exact HB.out)⟩⟩
                      ·
                       rw [if_neg c61] at H
                       exact absurd H (by simp)
                     ·
                      rw [if_neg c60] at H
                      exact absurd H (by simp)
                    ·
                     rw [if_neg c59] at H
                     exact absurd H (by simp)
                   ·
                    rw [if_neg c58] at H
                    exact absurd H (by simp)
                 ·
                  replace c53 := Bool.eq_false_iff.mpr c53
                  subst c53
                  have H1 : (casementref16_Order.l1 k2 l0 t206 t209 x6_1 x7_1 x8_1 x9_2 (wrap64 (x10_2 + 1))) = some (r1, r2) := by rw [if_neg (show ¬ (false = true) by decide)] at H; exact H
                  clear H
                  have H := H1
                  clear H1
                  have H' := Aside0.mk H
                  clear H
                  obtain ⟨Ao74, co74, eo74⟩ := Kd.R_slice HO_4.out
                  subst eo74
                  have p220 : 0 ≤ (x10_2 : Int) := of_decide_eq_true (by assumption)
                  have q220 : x10_2 < (t206.length : Int) := of_decide_eq_true (by assumption)
                  obtain ⟨ad220, e220, hx220_0⟩ := Kd.at_int (Kd.R_reads' HO_4.out).2.2 x10_2 p220 q220
                  cases e220
                  replace p220 := eq_true p220
                  replace q220 := eq_true q220
                  have p227 : 0 ≤ (x10_2 : Int) := of_decide_eq_true (by assumption)
                  have q227 : x10_2 < (t206.length : Int) := of_decide_eq_true (by assumption)
                  obtain ⟨ad227, e227, hx227_0⟩ := Kd.at_int (Kd.R_reads' HO_4.out).2.2 x10_2 p227 q227
                  obtain rfl : ad220 = ad227 := (by injection e227)
                  replace p227 := eq_true p227
                  replace q227 := eq_true q227
                  try go_wp2_with (first | (go_at_call 19; (with_reducible refine (casementref16_Place.calls k2 _ _ l0 (rd t206 x10_2) t228 _ ?side1 ?side2 A43.out).mono ?_); (case side1 => repeat (first | exact (Kd.C_below HR0.out HB.out) | (with_reducible refine Kd.C_alloc ?_ _) | (with_reducible refine Kd.C_drewN ?_ _) | (with_reducible refine Kd.C_drew ?_))); (case side2 => exact HC0.out); rintro e w' ⟨rfl, ⟨nd, rfl⟩⟩; obtain ⟨Ao75, co75, eo75⟩ := Kd.R_slice HO_6.out; subst eo75; have p229 : 0 ≤ (t228 : Int) := of_decide_eq_true (by assumption); have q229 : t228 < (x6_1.length : Int) := of_decide_eq_true (by assumption); obtain ⟨ad229, e229, hx229_0⟩ := Kd.at_bool (Kd.R_reads' HO_6.out).2.2 t228 p229 q229; (try rw [← Nbq47.out] at hx229_0); (try rw [← Nbq52.out] at hx229_0); cases e229; replace p229 := eq_true p229; replace q229 := eq_true q229))
                  (try (rw [drewN_self wr]; generalize hq_ : World.drewN wr _ = wr; have n0_ : Aside0 (Kd.R (Kd.int .i64) 3 wr w.heap.size (fun k_ => some k_ ≠ (v210 : Value).ownBlock ∧ some k_ ≠ (u7 : Value).ownBlock) (.slice (some ad220) t206.length co74) t206) := ⟨by rw [← hq_]; exact (by (with_reducible repeat (first | apply Kd.R_alloc | apply Kd.R_drewN | apply Kd.R_drew)); exact HO_4.out)⟩; have n1_ : Aside0 (Kd.R (Kd.int .i64) 3 wr w.heap.size (fun k_ => some k_ ≠ (.slice (some ad220) t206.length co74 : Value).ownBlock ∧ some k_ ≠ (u7 : Value).ownBlock) v210 t209) := ⟨by rw [← hq_]; exact (by (with_reducible repeat (first | apply Kd.R_alloc | apply Kd.R_drewN | apply Kd.R_drew)); exact HO_5.out)⟩; have n2_ : Aside0 (Kd.R Kd.bool 4 wr w.heap.size (fun _ => True) (.slice (some ad229) x6_1.length co75) x6_1) := ⟨by rw [← hq_]; exact (by (with_reducible repeat (first | apply Kd.R_alloc | apply Kd.R_drewN | apply Kd.R_drew)); exact HO_6.out)⟩; have n3_ : Aside0 (Kd.R (Kd.int .i64) 3 wr w.heap.size (fun k_ => some k_ ≠ (.slice (some ad220) t206.length co74 : Value).ownBlock ∧ some k_ ≠ (v210 : Value).ownBlock) u7 x7_1) := ⟨by rw [← hq_]; exact (by (with_reducible repeat (first | apply Kd.R_alloc | apply Kd.R_drewN | apply Kd.R_drew)); exact HO_7.out)⟩; have n4_ : Aside0 (Below w.heap.size w wr) := ⟨by rw [← hq_]; exact (by repeat (first | (with_reducible first | exact HB.out | apply below_alloc | apply pw_below_drewN | apply below_drew1) | exact HB.out))⟩; clear HO_4 HO_5 HO_6 HO_7 HB hq_; have HO_4 := n0_; have HO_5 := n1_; have HO_6 := n2_; have HO_7 := n3_; have HB := n4_; clear n0_ n1_ n2_ n3_ n4_))
                  have n0_ := Aside0.mk (Kd.R_drew HO_4.out)
                  have n1_ := Aside0.mk (Kd.R_drew HO_5.out)
                  have n2_ := Aside0.mk (Kd.R_drew HO_6.out)
                  have n3_ := Aside0.mk (Kd.R_drew HO_7.out)
                  have n4_ := Aside0.mk (below_drew1 HB.out)
                  clear HO_4
                  clear HO_5
                  clear HO_6
                  clear HO_7
                  clear HB
                  have HO_4 := n0_
                  have HO_5 := n1_
                  have HO_6 := n2_
                  have HO_7 := n3_
                  have HB := n4_
                  clear n0_ n1_ n2_ n3_ n4_
                  have p230 : 0 ≤ (x10_2 : Int) := of_decide_eq_true (by assumption)
                  have q230 : x10_2 < (x6_1.length : Int) := of_decide_eq_true (by assumption)
                  obtain ⟨ad230, e230, hx230_0⟩ := Kd.at_bool (Kd.R_reads' HO_6.out).2.2 x10_2 p230 q230
                  (try rw [← Nbq47.out] at hx230_0)
                  (try rw [← Nbq52.out] at hx230_0)
                  obtain rfl : ad229 = ad230 := (by injection e230)
                  replace p230 := eq_true p230
                  replace q230 := eq_true q230
                  refine start_ (n := 31) (S := fun w' => w'.cell? (ad229.add (x10_2).toNat) = some (.bool false)) (ds := []) #[oF, oF, oF, oF, oF, oF, oF, oF, oF, oF, oF, oF, oF, oF, oF, oF, oF, oF, oF, oF, oF, oF, oF, oF, oF, oF, oF, oF, oF, oF, oF] (by kernel_rfl) rfl rfl (hx230_0) (fun hHeld => ?_); refine with_tabW casementref16_Order.tab14 casementref16_Order.bits14 (fun HT_ HW_ => ?_)
                  generalize wr.drew = w76 at HO_4 HO_5 HO_6 HO_7 HB hx230_0 hHeld ⊢
                  refine pure_ (i := 0) (N := some 52) (v := ?_) (a' := ?_) #[oT, oF, oF, oF, oF, oF, oF, oF, oF, oF, oF, oF, oF, oF, oF, oF, oF, oF, oF, oF, oF, oF, oF, oF, oF, oF, oF, oF, oF, oF, oF] rfl rfl (any_of HT_.out (by kernel_rfl)) (fun _ _ _ h => h) (Or.inl ⟨by rfl, ?_⟩) ?_ ?_
                  rotate_left
                  ·
                   intro w'
                   go_simp
                   with_reducible rfl
                  rotate_left
                  ·
                   simp only [Act.put, sTA, sS0, sS1, i64_w, i32_w]
                   rfl
                  refine pure_ (i := 1) (N := some 53) (v := ?_) (a' := ?_) #[oT, oT, oF, oF, oF, oF, oF, oF, oF, oF, oF, oF, oF, oF, oF, oF, oF, oF, oF, oF, oF, oF, oF, oF, oF, oF, oF, oF, oF, oF, oF] rfl rfl (any_of HT_.out (by kernel_rfl)) (fun _ _ _ h => h) (Or.inl ⟨by rfl, ?_⟩) ?_ ?_
                  rotate_left
                  ·
                   intro w'
                   go_simp
                   with_reducible rfl
                  rotate_left
                  ·
                   simp only [Act.put, sTA, sS0, sS1, i64_w, i32_w]
                   rfl
                  refine pure_ (i := 2) (N := some 54) (v := ?_) (a' := ?_) #[oT, oT, oT, oF, oF, oF, oF, oF, oF, oF, oF, oF, oF, oF, oF, oF, oF, oF, oF, oF, oF, oF, oF, oF, oF, oF, oF, oF, oF, oF, oF] rfl rfl (any_of HT_.out (by kernel_rfl)) (fun _ _ _ h => h) (Or.inl ⟨by rfl, ?_⟩) ?_ ?_
                  rotate_left
                  ·
                   intro w'
                   go_simp
                   with_reducible rfl
                  rotate_left
                  ·
                   simp only [Act.put, sTA, sS0, sS1, i64_w, i32_w]
                   rfl
                  refine take_ (i := 3) (N := some 55) (v := ?_) (a' := ?_) #[oT, oT, oT, oT, oF, oF, oF, oF, oF, oF, oF, oF, oF, oF, oF, oF, oF, oF, oF, oF, oF, oF, oF, oF, oF, oF, oF, oF, oF, oF, oF] rfl rfl (take_ofW HT_.out HW_.out (by kernel_rfl)) (fun _ _ _ h => h) (Or.inl ⟨by rfl, ?_⟩) hHeld ?_ ?_
                  rotate_left
                  ·
                   intro w' s0
                   go_simp
                   with_reducible rfl
                  rotate_left
                  ·
                   simp only [Act.put, sTA, sS0, sS1, i64_w, i32_w]
                   rfl
                  refine pure_ (i := 4) (N := some 56) (v := ?_) (a' := ?_) #[oT, oT, oT, oT, oT, oF, oF, oF, oF, oF, oF, oF, oF, oF, oF, oF, oF, oF, oF, oF, oF, oF, oF, oF, oF, oF, oF, oF, oF, oF, oF] rfl rfl (any_of HT_.out (by kernel_rfl)) (fun _ _ _ h => h) (Or.inl ⟨by rfl, ?_⟩) ?_ ?_
                  rotate_left
                  ·
                   intro w'
                   go_simp
                   with_reducible rfl
                  rotate_left
                  ·
                   simp only [Act.put, sTA, sS0, sS1, i64_w, i32_w]
                   rfl
                  refine pure_ (i := 5) (N := some 57) (v := ?_) (a' := ?_) #[oT, oT, oT, oT, oT, oT, oF, oF, oF, oF, oF, oF, oF, oF, oF, oF, oF, oF, oF, oF, oF, oF, oF, oF, oF, oF, oF, oF, oF, oF, oF] rfl rfl (any_of HT_.out (by kernel_rfl)) (fun _ _ _ h => h) (Or.inl ⟨by rfl, ?_⟩) ?_ ?_
                  rotate_left
                  ·
                   intro w'
                   go_simp
                   with_reducible rfl
                  rotate_left
                  ·
                   simp only [Act.put, sTA, sS0, sS1, i64_w, i32_w]
                   rfl
                  refine pure_ (i := 6) (N := some 58) (v := ?_) (a' := ?_) #[oT, oT, oT, oT, oT, oT, oT, oF, oF, oF, oF, oF, oF, oF, oF, oF, oF, oF, oF, oF, oF, oF, oF, oF, oF, oF, oF, oF, oF, oF, oF] rfl rfl (any_of HT_.out (by kernel_rfl)) (fun _ _ _ h => h) (Or.inl ⟨by rfl, ?_⟩) ?_ ?_
                  rotate_left
                  ·
                   intro w'
                   go_simp
                   with_reducible rfl
                  rotate_left
                  ·
                   simp only [Act.put, sTA, sS0, sS1, i64_w, i32_w]
                   rfl
                  refine pure_ (i := 7) (N := some 59) (v := ?_) (a' := ?_) #[oT, oT, oT, oT, oT, oT, oT, oT, oF, oF, oF, oF, oF, oF, oF, oF, oF, oF, oF, oF, oF, oF, oF, oF, oF, oF, oF, oF, oF, oF, oF] rfl rfl (any_of HT_.out (by kernel_rfl)) (fun _ _ _ h => h) (Or.inl ⟨by rfl, ?_⟩) ?_ ?_
                  rotate_left
                  ·
                   intro w'
                   go_simp
                   with_reducible rfl
                  rotate_left
                  ·
                   simp only [Act.put, sTA, sS0, sS1, i64_w, i32_w]
                   rfl
                  refine pure_ (i := 8) (N := some 60) (v := ?_) (a' := ?_) #[oT, oT, oT, oT, oT, oT, oT, oT, oT, oF, oF, oF, oF, oF, oF, oF, oF, oF, oF, oF, oF, oF, oF, oF, oF, oF, oF, oF, oF, oF, oF] rfl rfl (any_of HT_.out (by kernel_rfl)) (fun _ _ _ h => h) (Or.inl ⟨by rfl, ?_⟩) ?_ ?_
                  rotate_left
                  ·
                   intro w'
                   go_simp
                   with_reducible rfl
                  rotate_left
                  ·
                   simp only [Act.put, sTA, sS0, sS1, i64_w, i32_w]
                   rfl
                  refine pure_ (i := 9) (N := some 61) (v := undef) (a' := ?_) #[oT, oT, oT, oT, oT, oT, oT, oT, oT, oT, oF, oF, oF, oF, oF, oF, oF, oF, oF, oF, oF, oF, oF, oF, oF, oF, oF, oF, oF, oF, oF] rfl rfl (any_of HT_.out (by kernel_rfl)) (fun _ _ _ h => h) (Or.inr ⟨by rfl, rfl⟩) ?_ ?_
                  rotate_left
                  ·
                   simp only [Act.put, sTA, sS0, sS1, i64_w, i32_w]
                   rfl
                  refine pure_ (i := 10) (N := some 62) (v := undef) (a' := ?_) #[oT, oT, oT, oT, oT, oT, oT, oT, oT, oT, oT, oF, oF, oF, oF, oF, oF, oF, oF, oF, oF, oF, oF, oF, oF, oF, oF, oF, oF, oF, oF] rfl rfl (any_of HT_.out (by kernel_rfl)) (fun _ _ _ h => h) (Or.inr ⟨by rfl, rfl⟩) ?_ ?_
                  rotate_left
                  ·
                   simp only [Act.put, sTA, sS0, sS1, i64_w, i32_w]
                   rfl
                  refine pure_ (i := 11) (N := some 63) (v := undef) (a' := ?_) #[oT, oT, oT, oT, oT, oT, oT, oT, oT, oT, oT, oT, oF, oF, oF, oF, oF, oF, oF, oF, oF, oF, oF, oF, oF, oF, oF, oF, oF, oF, oF] rfl rfl (any_of HT_.out (by kernel_rfl)) (fun _ _ _ h => h) (Or.inr ⟨by rfl, rfl⟩) ?_ ?_
                  rotate_left
                  ·
                   simp only [Act.put, sTA, sS0, sS1, i64_w, i32_w]
                   rfl
                  refine pure_ (i := 12) (N := some 64) (v := undef) (a' := ?_) #[oT, oT, oT, oT, oT, oT, oT, oT, oT, oT, oT, oT, oT, oF, oF, oF, oF, oF, oF, oF, oF, oF, oF, oF, oF, oF, oF, oF, oF, oF, oF] rfl rfl (any_of HT_.out (by kernel_rfl)) (fun _ _ _ h => h) (Or.inr ⟨by rfl, rfl⟩) ?_ ?_
                  rotate_left
                  ·
                   simp only [Act.put, sTA, sS0, sS1, i64_w, i32_w]
                   rfl
                  refine pure_ (i := 13) (N := some 65) (v := undef) (a' := ?_) #[oT, oT, oT, oT, oT, oT, oT, oT, oT, oT, oT, oT, oT, oT, oF, oF, oF, oF, oF, oF, oF, oF, oF, oF, oF, oF, oF, oF, oF, oF, oF] rfl rfl (any_of HT_.out (by kernel_rfl)) (fun _ _ _ h => h) (Or.inr ⟨by rfl, rfl⟩) ?_ ?_
                  rotate_left
                  ·
                   simp only [Act.put, sTA, sS0, sS1, i64_w, i32_w]
                   rfl
                  refine pure_ (i := 14) (N := some 66) (v := undef) (a' := ?_) #[oT, oT, oT, oT, oT, oT, oT, oT, oT, oT, oT, oT, oT, oT, oT, oF, oF, oF, oF, oF, oF, oF, oF, oF, oF, oF, oF, oF, oF, oF, oF] rfl rfl (any_of HT_.out (by kernel_rfl)) (fun _ _ _ h => h) (Or.inr ⟨by rfl, rfl⟩) ?_ ?_
                  rotate_left
                  ·
                   simp only [Act.put, sTA, sS0, sS1, i64_w, i32_w]
                   rfl
                  refine pure_ (i := 15) (N := some 67) (v := undef) (a' := ?_) #[oT, oT, oT, oT, oT, oT, oT, oT, oT, oT, oT, oT, oT, oT, oT, oT, oF, oF, oF, oF, oF, oF, oF, oF, oF, oF, oF, oF, oF, oF, oF] rfl rfl (any_of HT_.out (by kernel_rfl)) (fun _ _ _ h => h) (Or.inr ⟨by rfl, rfl⟩) ?_ ?_
                  rotate_left
                  ·
                   simp only [Act.put, sTA, sS0, sS1, i64_w, i32_w]
                   rfl
                  refine pure_ (i := 16) (N := some 68) (v := undef) (a' := ?_) #[oT, oT, oT, oT, oT, oT, oT, oT, oT, oT, oT, oT, oT, oT, oT, oT, oT, oF, oF, oF, oF, oF, oF, oF, oF, oF, oF, oF, oF, oF, oF] rfl rfl (any_of HT_.out (by kernel_rfl)) (fun _ _ _ h => h) (Or.inr ⟨by rfl, rfl⟩) ?_ ?_
                  rotate_left
                  ·
                   simp only [Act.put, sTA, sS0, sS1, i64_w, i32_w]
                   rfl
                  refine pure_ (i := 17) (N := some 69) (v := undef) (a' := ?_) #[oT, oT, oT, oT, oT, oT, oT, oT, oT, oT, oT, oT, oT, oT, oT, oT, oT, oT, oF, oF, oF, oF, oF, oF, oF, oF, oF, oF, oF, oF, oF] rfl rfl (any_of HT_.out (by kernel_rfl)) (fun _ _ _ h => h) (Or.inr ⟨by rfl, rfl⟩) ?_ ?_
                  rotate_left
                  ·
                   simp only [Act.put, sTA, sS0, sS1, i64_w, i32_w]
                   rfl
                  refine pure_ (i := 18) (N := some 70) (v := undef) (a' := ?_) #[oT, oT, oT, oT, oT, oT, oT, oT, oT, oT, oT, oT, oT, oT, oT, oT, oT, oT, oT, oF, oF, oF, oF, oF, oF, oF, oF, oF, oF, oF, oF] rfl rfl (any_of HT_.out (by kernel_rfl)) (fun _ _ _ h => h) (Or.inr ⟨by rfl, rfl⟩) ?_ ?_
                  rotate_left
                  ·
                   simp only [Act.put, sTA, sS0, sS1, i64_w, i32_w]
                   rfl
                  refine pure_ (i := 19) (N := some 71) (v := undef) (a' := ?_) #[oT, oT, oT, oT, oT, oT, oT, oT, oT, oT, oT, oT, oT, oT, oT, oT, oT, oT, oT, oT, oF, oF, oF, oF, oF, oF, oF, oF, oF, oF, oF] rfl rfl (any_of HT_.out (by kernel_rfl)) (fun _ _ _ h => h) (Or.inr ⟨by rfl, rfl⟩) ?_ ?_
                  rotate_left
                  ·
                   simp only [Act.put, sTA, sS0, sS1, i64_w, i32_w]
                   rfl
                  refine pure_ (i := 20) (N := some 72) (v := undef) (a' := ?_) #[oT, oT, oT, oT, oT, oT, oT, oT, oT, oT, oT, oT, oT, oT, oT, oT, oT, oT, oT, oT, oT, oF, oF, oF, oF, oF, oF, oF, oF, oF, oF] rfl rfl (any_of HT_.out (by kernel_rfl)) (fun _ _ _ h => h) (Or.inr ⟨by rfl, rfl⟩) ?_ ?_
                  rotate_left
                  ·
                   simp only [Act.put, sTA, sS0, sS1, i64_w, i32_w]
                   rfl
                  refine pure_ (i := 21) (N := some 73) (v := undef) (a' := ?_) #[oT, oT, oT, oT, oT, oT, oT, oT, oT, oT, oT, oT, oT, oT, oT, oT, oT, oT, oT, oT, oT, oT, oF, oF, oF, oF, oF, oF, oF, oF, oF] rfl rfl (any_of HT_.out (by kernel_rfl)) (fun _ _ _ h => h) (Or.inr ⟨by rfl, rfl⟩) ?_ ?_
                  rotate_left
                  ·
                   simp only [Act.put, sTA, sS0, sS1, i64_w, i32_w]
                   rfl
                  refine pure_ (i := 22) (N := some 74) (v := undef) (a' := ?_) #[oT, oT, oT, oT, oT, oT, oT, oT, oT, oT, oT, oT, oT, oT, oT, oT, oT, oT, oT, oT, oT, oT, oT, oF, oF, oF, oF, oF, oF, oF, oF] rfl rfl (any_of HT_.out (by kernel_rfl)) (fun _ _ _ h => h) (Or.inr ⟨by rfl, rfl⟩) ?_ ?_
                  rotate_left
                  ·
                   simp only [Act.put, sTA, sS0, sS1, i64_w, i32_w]
                   rfl
                  refine pure_ (i := 23) (N := some 75) (v := undef) (a' := ?_) #[oT, oT, oT, oT, oT, oT, oT, oT, oT, oT, oT, oT, oT, oT, oT, oT, oT, oT, oT, oT, oT, oT, oT, oT, oF, oF, oF, oF, oF, oF, oF] rfl rfl (any_of HT_.out (by kernel_rfl)) (fun _ _ _ h => h) (Or.inr ⟨by rfl, rfl⟩) ?_ ?_
                  rotate_left
                  ·
                   simp only [Act.put, sTA, sS0, sS1, i64_w, i32_w]
                   rfl
                  refine pure_ (i := 24) (N := some 76) (v := undef) (a' := ?_) #[oT, oT, oT, oT, oT, oT, oT, oT, oT, oT, oT, oT, oT, oT, oT, oT, oT, oT, oT, oT, oT, oT, oT, oT, oT, oF, oF, oF, oF, oF, oF] rfl rfl (any_of HT_.out (by kernel_rfl)) (fun _ _ _ h => h) (Or.inr ⟨by rfl, rfl⟩) ?_ ?_
                  rotate_left
                  ·
                   simp only [Act.put, sTA, sS0, sS1, i64_w, i32_w]
                   rfl
                  refine pure_ (i := 25) (N := some 77) (v := undef) (a' := ?_) #[oT, oT, oT, oT, oT, oT, oT, oT, oT, oT, oT, oT, oT, oT, oT, oT, oT, oT, oT, oT, oT, oT, oT, oT, oT, oT, oF, oF, oF, oF, oF] rfl rfl (any_of HT_.out (by kernel_rfl)) (fun _ _ _ h => h) (Or.inr ⟨by rfl, rfl⟩) ?_ ?_
                  rotate_left
                  ·
                   simp only [Act.put, sTA, sS0, sS1, i64_w, i32_w]
                   rfl
                  refine pure_ (i := 26) (N := some 78) (v := undef) (a' := ?_) #[oT, oT, oT, oT, oT, oT, oT, oT, oT, oT, oT, oT, oT, oT, oT, oT, oT, oT, oT, oT, oT, oT, oT, oT, oT, oT, oT, oF, oF, oF, oF] rfl rfl (any_of HT_.out (by kernel_rfl)) (fun _ _ _ h => h) (Or.inr ⟨by rfl, rfl⟩) ?_ ?_
                  rotate_left
                  ·
                   simp only [Act.put, sTA, sS0, sS1, i64_w, i32_w]
                   rfl
                  refine pure_ (i := 27) (N := some 79) (v := undef) (a' := ?_) #[oT, oT, oT, oT, oT, oT, oT, oT, oT, oT, oT, oT, oT, oT, oT, oT, oT, oT, oT, oT, oT, oT, oT, oT, oT, oT, oT, oT, oF, oF, oF] rfl rfl (any_of HT_.out (by kernel_rfl)) (fun _ _ _ h => h) (Or.inr ⟨by rfl, rfl⟩) ?_ ?_
                  rotate_left
                  ·
                   simp only [Act.put, sTA, sS0, sS1, i64_w, i32_w]
                   rfl
                  refine pure_ (i := 28) (N := some 80) (v := undef) (a' := ?_) #[oT, oT, oT, oT, oT, oT, oT, oT, oT, oT, oT, oT, oT, oT, oT, oT, oT, oT, oT, oT, oT, oT, oT, oT, oT, oT, oT, oT, oT, oF, oF] rfl rfl (any_of HT_.out (by kernel_rfl)) (fun _ _ _ h => h) (Or.inr ⟨by rfl, rfl⟩) ?_ ?_
                  rotate_left
                  ·
                   simp only [Act.put, sTA, sS0, sS1, i64_w, i32_w]
                   rfl
                  refine pure_ (i := 29) (N := some 81) (v := undef) (a' := ?_) #[oT, oT, oT, oT, oT, oT, oT, oT, oT, oT, oT, oT, oT, oT, oT, oT, oT, oT, oT, oT, oT, oT, oT, oT, oT, oT, oT, oT, oT, oT, oF] rfl rfl (any_of HT_.out (by kernel_rfl)) (fun _ _ _ h => h) (Or.inr ⟨by rfl, rfl⟩) ?_ ?_
                  rotate_left
                  ·
                   simp only [Act.put, sTA, sS0, sS1, i64_w, i32_w]
                   rfl
                  refine pure_ (i := 30) (N := some 82) (v := ?_) (a' := ?_) #[oT, oT, oT, oT, oT, oT, oT, oT, oT, oT, oT, oT, oT, oT, oT, oT, oT, oT, oT, oT, oT, oT, oT, oT, oT, oT, oT, oT, oT, oT, oT] rfl rfl (any_of HT_.out (by kernel_rfl)) (fun _ _ _ h => h) (Or.inl ⟨by rfl, ?_⟩) ?_ ?_
                  rotate_left
                  ·
                   intro w'
                   go_simp
                   with_reducible rfl
                  rotate_left
                  ·
                   simp only [Act.put, sTA, sS0, sS1, i64_w, i32_w]
                   rfl
                  refine done_ (done_of HT_.out (by kernel_rfl)) ?_
                  try go_wp2
                  go_roundg k2
                  case measure => have := HK1.out; have := HK2.out; omega
                  case rel => exact ⟨(x9_2), (wrap64 (x10_2 + 1)), (by first | rfl | (simp; done) | (simp [*]; done)), (by first | rfl | (simp; done) | (simp [*]; done)), H', ⟨by have := HK1.out; have := HK2.out; omega⟩, ⟨by (with_reducible repeat (first | apply Kd.R_alloc | apply Kd.R_drewN | apply Kd.R_drew)); exact HO_4.out⟩, ⟨by (with_reducible repeat (first | apply Kd.R_alloc | apply Kd.R_drewN | apply Kd.R_drew)); exact HO_5.out⟩, ⟨by (with_reducible repeat (first | apply Kd.R_alloc | apply Kd.R_drewN | apply Kd.R_drew)); exact HO_6.out⟩, ⟨by (with_reducible repeat (first | apply Kd.R_alloc | apply Kd.R_drewN | apply Kd.R_drew)); exact HO_7.out⟩, ⟨by repeat (first | (with_reducible first | exact HB.out | apply below_alloc | apply pw_below_drewN | apply below_drew1) | exact HB.out)⟩⟩
               ·
                rw [if_neg c46] at H
                exact absurd H (by simp)
              ·
               rw [if_neg c45] at H
               exact absurd H (by simp)
             ·
              rw [if_neg c44] at H
              exact absurd H (by simp)
           ·
            rw [if_neg c15] at H
            exact absurd H (by simp)
          ·
           rw [if_neg c14] at H
           exact absurd H (by simp)
         ·
          rw [if_neg c13] at H
          have c13b0 : decide (x10_2 < (l0.length : Int)) = false := decide_eq_false c13
          clear c13
          by_cases c77 : 0 ≤ x9_2
          ·
           rw [if_pos c77] at H
           have c77b0 : decide (0 ≤ x9_2) = true := decide_eq_true c77
           clear c77
           by_cases c78 : x9_2 < (x6_1.length : Int)
           ·
            rw [if_pos c78] at H
            have c78b0 : decide (x9_2 < (x6_1.length : Int)) = true := decide_eq_true c78
            clear c78
            obtain ⟨y215, hy215⟩ : ∃ y_ : List Bool, y_ = (x6_1.set (x9_2 : Int).toNat true) := ⟨_, rfl⟩
            replace H : (if x9_2 < (l0.length : Int) then (if x7_1.length < 17592186044416 then (casementref16_Order.l0 k2 l0 t206 t209 y215 (x7_1 ++ [(rd_T38 l0 x9_2).f0]) (wrap64 (x8_1 + 1))) else (none)) else (none)) = some (r1, r2) := by first | (rw [hy215]; with_reducible exact H) | (have H2_ := (Option.bind_some _ _).symm.trans H; rw [hy215]; with_reducible exact H2_) | (have H2_ := (Option.bind_some _ _).symm.trans H; with_reducible exact H2_) | with_reducible exact H | (rw [hy215]; exact H) | exact H
            have Ny215 := Aside0.mk hy215
            clear hy215
            by_cases c80 : x9_2 < (l0.length : Int)
            ·
             rw [if_pos c80] at H
             have c80b0 : decide (x9_2 < (l0.length : Int)) = true := decide_eq_true c80
             clear c80
             by_cases c81 : x7_1.length < 17592186044416
             ·
              rw [if_pos c81] at H
              have LMc81 := Aside0.mk c81
              clear c81
              obtain ⟨y217, hy217⟩ : ∃ y_ : List Int, y_ = (x7_1 ++ [(rd_T38 l0 x9_2).f0]) := ⟨_, rfl⟩
              replace H : (casementref16_Order.l0 k2 l0 t206 t209 y215 y217 (wrap64 (x8_1 + 1))) = some (r1, r2) := by first | (rw [hy217]; with_reducible exact H) | (have H2_ := (Option.bind_some _ _).symm.trans H; rw [hy217]; with_reducible exact H2_) | (have H2_ := (Option.bind_some _ _).symm.trans H; with_reducible exact H2_) | with_reducible exact H | (rw [hy217]; exact H) | exact H
              have Ny217 := Aside0.mk hy217
              clear hy217
              have H' := Aside0.mk H
              clear H
              have p79 : 0 ≤ (x9_2 : Int) := of_decide_eq_true (by assumption)
              have q79 : (x9_2 : Int) < ((x6_1.length : Int) : Int) := of_decide_eq_true (by assumption)
              obtain ⟨go79, co79, eo79, gb79, gl79, cl79, HG79⟩ := Kd.R_form HO_6.out (by omega)
              (first | cases eo79 | (injection eo79 with ea_ en_ ec_; (first | subst ea_ | (injection ea_ with ea_; subst ea_)); subst ec_; clear en_))
              have GB79 := Aside0.mk gb79
              have GG79 := Aside0.mk HG79
              clear gb79 gl79 HG79
              obtain ⟨hx79_0, hf79_0⟩ := Kd.R_celln false HO_6.out (x9_2 : Int) p79 q79
              replace p79 := eq_true p79
              replace q79 := eq_true q79
              have HP82 := Kd.R_putg HO_6.out (x9_2 : Int) true
              go_wp2_with (first | ((with_reducible refine gate_store (t := 4) (p := 86) rfl ?_); refine store_event (t := 4) (p := 86) (v := ?vo_w83) (w1 := (wr.setCell ⟨go79, (x9_2 : Int).toNat, none⟩ (.bool true))) ?hg ?ho ?hn ?hr ?_; (case ho => rfl); (case hg => rfl); (case hn => rfl); (case hr => first | (go_simp; done) | (go_simp; rfl)); intro w83 hw; have hg : wr.grownBy w83 (some go79) := (by rw [hw]; exact HP82.2); have hp_ : Kd.R Kd.bool 4 w83 w.heap.size (fun _ => True) (.slice (some ⟨go79, 0, none⟩) x6_1.length co79) y215 := (by rw [hw, Ny215.out]; exact HP82.1); clear HP82; have n0_ := Aside0.mk (Kd.R_over' (v := (.slice (some ⟨go79, 0, none⟩) x6_1.length co79)) (by (with_reducible repeat (first | apply Kd.R_alloc | apply Kd.R_drewN | apply Kd.R_drew)); exact HO_4.out) (Kd.R_typed HO_6.out) (by decide) hg); have n1_ := Aside0.mk (Kd.R_over' (v := (.slice (some ⟨go79, 0, none⟩) x6_1.length co79)) (by (with_reducible repeat (first | apply Kd.R_alloc | apply Kd.R_drewN | apply Kd.R_drew)); exact HO_5.out) (Kd.R_typed HO_6.out) (by decide) hg); have n2_ := Aside0.mk (hp_); have n3_ := Aside0.mk (Kd.R_over' (v := (.slice (some ⟨go79, 0, none⟩) x6_1.length co79)) (by (with_reducible repeat (first | apply Kd.R_alloc | apply Kd.R_drewN | apply Kd.R_drew)); exact HO_7.out) (Kd.R_typed HO_6.out) (by decide) hg); have n4_ := Aside0.mk ((by rw [hw]; exact below_set (HB.out) GB79.out : Below w.heap.size w w83)); clear HO_4; clear HO_5; clear HO_6; clear HO_7; clear HB; have HO_4 := n0_; have HO_5 := n1_; have HO_6 := n2_; have HO_7 := n3_; have HB := n4_; clear n0_ n1_ n2_ n3_ n4_; clear hg hw hp_; have p216 : 0 ≤ (x9_2 : Int) := of_decide_eq_true (by assumption); have q216 : x9_2 < (l0.length : Int) := of_decide_eq_true (by assumption); obtain ⟨ad216, e216, hx216_0, hx216_1, hx216_2, hx216_3, hx216_4, hx216_5⟩ := at_T38 HR0.out x9_2 p216 q216; cases e216; replace hx216_0 := (HB.out.cell (World.block_lt_of_cell? w _ hx216_0)).trans hx216_0; replace hx216_1 := (HB.out.cell (World.block_lt_of_cell? w _ hx216_1)).trans hx216_1; replace hx216_2 := (HB.out.cell (World.block_lt_of_cell? w _ hx216_2)).trans hx216_2; replace hx216_3 := (HB.out.cell (World.block_lt_of_cell? w _ hx216_3)).trans hx216_3; replace hx216_4 := (HB.out.cell (World.block_lt_of_cell? w _ hx216_4)).trans hx216_4; replace hx216_5 := (HB.out.cell (World.block_lt_of_cell? w _ hx216_5)).trans hx216_5; replace p216 := eq_true p216; replace q216 := eq_true q216) | ((with_reducible refine gate_builtin (b := .append) (xs := #[.tmp 87, .tmp 93]) rfl ?_); at_builtin; refine Kd.R_append (Kd.int .i64) (w0 := w) w.heap.size rfl (.tmp 87) (.tmp 93) 27 3 (.int .i64 0) 8 rfl Try.underlying27 info3 rfl (by decide) (by omega) u7 x7_1 ((rd_T38 l0 x9_2).f0) [.int .i64 ((rd_T38 l0 x9_2).f0)] (fun k_ => some k_ ≠ (v207 : Value).ownBlock ∧ some k_ ≠ (v210 : Value).ownBlock) (fun _ => False) rfl rfl ?aP (fun _ hk => hk.elim) ?aF ?aO ?aB ?aS ?aL ?_; (case aP => exact rfl); (case aB => exact (by repeat (first | (with_reducible first | exact HB.out | apply below_alloc | apply pw_below_drewN | apply below_drew1) | exact HB.out))); (case aF => exact (fun k_ hk => ⟨Kd.fresh' (Kd.R_lt (by (with_reducible repeat (first | apply Kd.R_alloc | apply Kd.R_drewN | apply Kd.R_drew)); exact HO_4.out)) k_ hk, Kd.fresh' (Kd.R_lt (by (with_reducible repeat (first | apply Kd.R_alloc | apply Kd.R_drewN | apply Kd.R_drew)); exact HO_5.out)) k_ hk⟩)); (case aO => exact (by (with_reducible repeat (first | apply Kd.R_alloc | apply Kd.R_drewN | apply Kd.R_drew)); exact HO_7.out)); (case aS => exact (below_size (by repeat (first | (with_reducible first | exact HB.out | apply below_alloc | apply pw_below_drewN | apply below_drew1) | exact HB.out)))); (case aL => have := LMc81.out; omega); intro v218 w84 ho hb hg hat; rw [← Ny217.out] at ho; have n0_ := Aside0.mk (Kd.R_after (ok := (fun k_ => some k_ ≠ (v210 : Value).ownBlock)) (by (with_reducible repeat (first | apply Kd.R_alloc | apply Kd.R_drewN | apply Kd.R_drew)); exact HO_4.out) hg hat); have n1_ := Aside0.mk (Kd.R_after (ok := (fun k_ => some k_ ≠ (v207 : Value).ownBlock)) (by (with_reducible repeat (first | apply Kd.R_alloc | apply Kd.R_drewN | apply Kd.R_drew)); exact HO_5.out) hg hat); have n2_ := Aside0.mk (Kd.R_over' (by (with_reducible repeat (first | apply Kd.R_alloc | apply Kd.R_drewN | apply Kd.R_drew)); exact HO_6.out) (Kd.R_typed (by (with_reducible repeat (first | apply Kd.R_alloc | apply Kd.R_drewN | apply Kd.R_drew)); exact HO_7.out)) (by decide) hg); have n3_ := Aside0.mk (hb); have n4_ := Aside0.mk (ho); clear HO_4; clear HO_5; clear HO_6; clear HB; clear HO_7; have HO_4 := n0_; have HO_5 := n1_; have HO_6 := n2_; have HB := n3_; have HO219 := n4_; clear n0_ n1_ n2_ n3_ n4_; clear ho hb hg hat))
              go_roundg k2
              case measure => have := HK1.out; have := HK2.out; omega
              case rel => exact ⟨(y215), (y217), (wrap64 (x8_1 + 1)), (by first | rfl | (simp; done) | (simp [*]; done)), H', ⟨by have := HK1.out; have := HK2.out; omega⟩, ⟨by (with_reducible repeat (first | apply Kd.R_alloc | apply Kd.R_drewN | apply Kd.R_drew)); exact HO_4.out⟩, ⟨by (with_reducible repeat (first | apply Kd.R_alloc | apply Kd.R_drewN | apply Kd.R_drew)); exact HO_5.out⟩, ⟨by (with_reducible repeat (first | apply Kd.R_alloc | apply Kd.R_drewN | apply Kd.R_drew)); exact HO_6.out⟩, ⟨by (with_reducible repeat (first | apply Kd.R_alloc | apply Kd.R_drewN | apply Kd.R_drew)); exact HO219.out⟩, ⟨by repeat (first | (with_reducible first | exact HB.out | apply below_alloc | apply pw_below_drewN | apply below_drew1) | exact HB.out)⟩⟩
             ·
              rw [if_neg c81] at H
              exact absurd H (by simp)
            ·
             rw [if_neg c80] at H
             exact absurd H (by simp)
           ·
            rw [if_neg c78] at H
            exact absurd H (by simp)
          ·
           rw [if_neg c77] at H
           exact absurd H (by simp)
      ·
       rw [if_neg c12] at H
       have c12b0 : decide (x8_1 < (l0.length : Int)) = false := decide_eq_false c12
       clear c12
       simp only [Option.some.injEq, Prod.mk.injEq] at H
       obtain ⟨rfl, rfl⟩ := H
       go_wp2
       go_ret2
       exact ⟨_, by first | rfl | (simp [errW_none, errW_some] <;> rfl) | (simp [*, errW_none, errW_some] <;> rfl), by (with_reducible repeat (first | apply Kd.R_alloc | apply Kd.R_drewN | apply Kd.R_drew)); exact Kd.R_mono HO_7.out (fun _ hk => trivial), by repeat (first | (with_reducible first | exact HB.out | apply below_alloc | apply pw_below_drewN | apply below_drew1) | exact HB.out)⟩
   ·
    rw [if_neg c7] at H
    exact absurd H (by simp)
  ·
   rw [if_neg c6] at H
   exact absurd H (by simp)
 ·
  rw [if_neg c3] at H
  have c3b0 : (t204 == 0) = false := beq_eq_false_iff_ne.mpr c3
  have c3b1 : (t204 != 0) = true := bne_iff_ne.mpr c3
  replace H := Option.bind_eq_some_iff.mp H
  obtain ⟨t205, A850, H⟩ := H
  replace H : (some (([] : List Int), t205)) = some (r1, r2) := H
  have A85 := Aside0.mk A850
  clear A850
  simp only [Option.some.injEq, Prod.mk.injEq] at H
  obtain ⟨rfl, rfl⟩ := H
  go_enter Try.func18, Try.ntmps18
  go_wp2_with (first | ((with_reducible refine gate_callee (f := 10) rfl ?_); refine goesL_ (some 13) rfl rfl Try.func10 (by kernel_rfl) rfl #[.slice A0 l0.length c0] rfl (by (try simp only [List.map_toArray, List.map_cons, List.map_nil]); first | done | rfl | (simp only [List.length_drop, List.length_take]; rfl)) ?_; (with_reducible refine (casementref16_Check.calls k _ _ l0 t204 _ ?side1 ?side2 A2.out).mono ?_); (case side1 => repeat (first | exact HR0.out | (with_reducible refine Kd.C_alloc ?_ _) | (with_reducible refine Kd.C_drewN ?_ _) | (with_reducible refine Kd.C_drew ?_))); (case side2 => exact HC0.out); rintro e w' ⟨rfl, ⟨nd, rfl⟩⟩; refine ⟨_, rfl, ?_⟩) | ((with_reducible refine gate_callee (f := 10) rfl ?_); refine goesL_ (some 16) rfl rfl Try.func10 (by kernel_rfl) rfl #[.slice A0 l0.length c0] rfl (by (try simp only [List.map_toArray, List.map_cons, List.map_nil]); first | done | rfl | (simp only [List.length_drop, List.length_take]; rfl)) ?_; (with_reducible refine (casementref16_Check.calls k _ _ l0 t205 _ ?side1 ?side2 A85.out).mono ?_); (case side1 => repeat (first | exact HR0.out | (with_reducible refine Kd.C_alloc ?_ _) | (with_reducible refine Kd.C_drewN ?_ _) | (with_reducible refine Kd.C_drew ?_))); (case side2 => exact HC0.out); rintro e w' ⟨rfl, ⟨nd, rfl⟩⟩; refine ⟨_, rfl, ?_⟩))
  go_ret2
  exact ⟨_, by first | rfl | (simp [errW_none, errW_some] <;> rfl) | (simp [*, errW_none, errW_some] <;> rfl), by first | exact Kd.R_nil _ _ _ _ _ | exact Kd.N_nil _ _ _ _ _ | exact Kd.V_nil _ _ _ _ _ | exact Kd.Q_nil _ _ _ _ _ | exact Kd.S_nil _ _ _ _ _, by repeat (first | (with_reducible first | exact HB.out | apply below_alloc | apply pw_below_drewN | apply below_drew1) | exact HB.out)⟩

end Go.Proofs.Ytplchdlcolepmaa.P
