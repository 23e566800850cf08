-- WRITTEN by wip/tools/myprint.py of this session, a program over the kit's print
import Derived.Test.YthlncjiapjahaaaPx0
import Derived.Test.YthlncjiapjahaaaPx1
import Derived.Test.YthlncjiapjahaaaPx2
import Derived.Test.YthlncjiapjahaaaExt
namespace Go.Proofs.Ythlncjiapjahaaa.P
open Go.RowKit Go.Proofs.YthlncjiapjahaaaW.PrintWords Go.Proofs.YthlncjiapjahaaaW.PrintLast Go.Proofs.YthlncjiapjahaaaW.PrintMore
attribute [local go_sem] max2_int min2_int max_two min_two max_three min_three max_four min_four   -- for this text's walks alone
set_option linter.unusedVariables false
set_option linter.unusedSimpArgs false

/-! ### casementlaw18_LexPlaces: function 5 -/
mutual
def casementlaw18_LexPlaces.l0 : Nat → ByteArray → List (S33) → Int → Int → Int → Option (Bool)
  | 0, _, _, _, _, _ => none
  | k + 1, x0, x3, x4, x6, x7 => if x7 < (x3.length : Int) then (if 0 ≤ x7 then (if ((rd_T33 x3 x7).f2) < x6 then (casementlaw18_LexPlaces.j1 k x0 x3 x4 x7 true ((rd_T33 x3 x7).f0) ((rd_T33 x3 x7).f1) ((rd_T33 x3 x7).f2)) else (if ((rd_T33 x3 x7).f2) > (x0.size : Int) then (casementlaw18_LexPlaces.j1 k x0 x3 x4 x7 true ((rd_T33 x3 x7).f0) ((rd_T33 x3 x7).f1) ((rd_T33 x3 x7).f2)) else (casementlaw18_LexPlaces.j1 k x0 x3 x4 x7 ((((rd_T33 x3 x7).f0) == 4) != (x7 == (wrap64 ((x3.length : Int) - 1)))) ((rd_T33 x3 x7).f0) ((rd_T33 x3 x7).f1) ((rd_T33 x3 x7).f2)))) else (none)) else (if x4 = 0 then (if (x3.length : Int) > 0 then ((casementlaw18_awake.f k).bind fun t209 => (some t209)) else (some false)) else (some false))
def casementlaw18_LexPlaces.j1 : Nat → ByteArray → List (S33) → Int → Int → Bool → Int → ByteArray → Int → Option (Bool)
  | 0, _, _, _, _, _, _, _, _ => none
  | k + 1, x0, x3, x4, x7, x68, x212000, x212001, x212002 => if x68 = true then (some false) else (if x212000 = 1 then (if (x212001.size : Int) > (wrap64 ((x0.size : Int) - x212002)) then (some false) else (if 0 ≤ x212002 then (if x212002 ≤ (wrap64 (x212002 + (x212001.size : Int))) then (if (wrap64 (x212002 + (x212001.size : Int))) ≤ (x0.size : Int) then (if (x0.extract (x212002 : Int).toNat ((wrap64 (x212002 + (x212001.size : Int))) : Int).toNat).toList = x212001.toList then (casementlaw18_LexPlaces.l0 k x0 x3 x4 (wrap64 (x212002 + (mx 1 (x212001.size : Int)))) (wrap64 (x7 + 1))) else (some false)) else (none)) else (none)) else (none))) else (if x212000 = 3 then (if (x212001.size : Int) > (wrap64 ((x0.size : Int) - x212002)) then (some false) else (if 0 ≤ x212002 then (if x212002 ≤ (wrap64 (x212002 + (x212001.size : Int))) then (if (wrap64 (x212002 + (x212001.size : Int))) ≤ (x0.size : Int) then (if (x0.extract (x212002 : Int).toNat ((wrap64 (x212002 + (x212001.size : Int))) : Int).toNat).toList = x212001.toList then (casementlaw18_LexPlaces.l0 k x0 x3 x4 (wrap64 (x212002 + (mx 1 (x212001.size : Int)))) (wrap64 (x7 + 1))) else (some false)) else (none)) else (none)) else (none))) else (casementlaw18_LexPlaces.l0 k x0 x3 x4 (wrap64 (x212002 + (mx 1 (x212001.size : Int)))) (wrap64 (x7 + 1)))))
end
def casementlaw18_LexPlaces.f (k : Nat) (a0 : ByteArray) : Option (Bool) := if (a0.size : Int) > 65536 then ((casementlaw18_awake.f k).bind fun t202 => (some t202)) else ((lex_Tokens.f k a0).bind fun bt203 => (if bt203.2.2 = 0 then (casementlaw18_LexPlaces.l0 k a0 bt203.1 bt203.2.1 0 0) else (if (bt203.1.length : Int) = 0 then (if bt203.2.1 ≥ 0 then (if bt203.2.1 < (a0.size : Int) then ((casementlaw18_awake.f k).bind fun t208 => (some t208)) else (some false)) else (some false)) else (some false))))
theorem casementlaw18_LexPlaces.mono_l : ∀ k, (∀ y0 y1 y2 y3 y4, LeO (casementlaw18_LexPlaces.l0 k y0 y1 y2 y3 y4) (casementlaw18_LexPlaces.l0 (k + 1) y0 y1 y2 y3 y4)) ∧ (∀ y0 y1 y2 y3 y4 y5 y6 y7, LeO (casementlaw18_LexPlaces.j1 k y0 y1 y2 y3 y4 y5 y6 y7) (casementlaw18_LexPlaces.j1 (k + 1) y0 y1 y2 y3 y4 y5 y6 y7))
  | 0 => ⟨fun _ _ _ _ _ r h => by simp [casementlaw18_LexPlaces.l0] at h, fun _ _ _ _ _ _ _ _ r h => by simp [casementlaw18_LexPlaces.j1] at h⟩
  | k + 1 => by
    obtain ⟨ih0, ih1⟩ := casementlaw18_LexPlaces.mono_l k
    refine ⟨?_, ?_⟩
    · intro y0 y1 y2 y3 y4
      unfold casementlaw18_LexPlaces.l0
      repeat' first
      | (with_reducible exact ih0 _ _ _ _ _)
      | (with_reducible exact ih1 _ _ _ _ _ _ _ _)
      | (with_reducible exact casementlaw18_awake.mono _)
      | (with_reducible exact lex_Tokens.mono _ _)
      | (with_reducible exact LeO.refl _)
      | (with_reducible exact LeO.none _)
      | (with_reducible refine LeO.ite ?_ ?_)
      | (with_reducible refine LeO.bind ?_ (fun _ => ?_))
      | exact ih0 _ _ _ _ _
      | exact ih1 _ _ _ _ _ _ _ _
      | exact casementlaw18_awake.mono _
      | exact lex_Tokens.mono _ _
      | exact LeO.none _
      | refine LeO.ite ?_ ?_
      | refine LeO.bind ?_ (fun _ => ?_)
    · intro y0 y1 y2 y3 y4 y5 y6 y7
      unfold casementlaw18_LexPlaces.j1
      repeat' first
      | (with_reducible exact ih0 _ _ _ _ _)
      | (with_reducible exact ih1 _ _ _ _ _ _ _ _)
      | (with_reducible exact casementlaw18_awake.mono _)
      | (with_reducible exact lex_Tokens.mono _ _)
      | (with_reducible exact LeO.refl _)
      | (with_reducible exact LeO.none _)
      | (with_reducible refine LeO.ite ?_ ?_)
      | (with_reducible refine LeO.bind ?_ (fun _ => ?_))
      | exact ih0 _ _ _ _ _
      | exact ih1 _ _ _ _ _ _ _ _
      | exact casementlaw18_awake.mono _
      | exact lex_Tokens.mono _ _
      | exact LeO.none _
      | refine LeO.ite ?_ ?_
      | refine LeO.bind ?_ (fun _ => ?_)
theorem casementlaw18_LexPlaces.mono : ∀ a0 k, LeO (casementlaw18_LexPlaces.f k a0) (casementlaw18_LexPlaces.f (k + 1) a0) := by
  intro a0 k
  obtain ⟨ih0, ih1⟩ := casementlaw18_LexPlaces.mono_l k
  unfold casementlaw18_LexPlaces.f
  repeat' first
      | (with_reducible exact ih0 _ _ _ _ _)
      | (with_reducible exact ih1 _ _ _ _ _ _ _ _)
      | (with_reducible exact casementlaw18_awake.mono _)
      | (with_reducible exact lex_Tokens.mono _ _)
      | (with_reducible exact LeO.refl _)
      | (with_reducible exact LeO.none _)
      | (with_reducible refine LeO.ite ?_ ?_)
      | (with_reducible refine LeO.bind ?_ (fun _ => ?_))
      | exact ih0 _ _ _ _ _
      | exact ih1 _ _ _ _ _ _ _ _
      | exact casementlaw18_awake.mono _
      | exact lex_Tokens.mono _ _
      | exact LeO.none _
      | refine LeO.ite ?_ ?_
      | refine LeO.bind ?_ (fun _ => ?_)
set_option maxHeartbeats 8000000 in
set_option maxRecDepth 100000 in
theorem casementlaw18_LexPlaces.calls (k : Nat) (a0 : ByteArray) (r : Bool) (w : World) (h : casementlaw18_LexPlaces.f k a0 = some r) :
    Calls Try.prog 5 #[.string a0] w fun e w' => e = .returned (.bool r) ∧ Below w.heap.size w w' := by
  have hu33 := Try.underlying33
  have HB := Aside0.mk (Below.refl w.heap.size w)
  have H : (if (a0.size : Int) > 65536 then ((casementlaw18_awake.f k).bind fun t202 => (some t202)) else ((lex_Tokens.f k a0).bind fun bt203 => (if bt203.2.2 = 0 then (casementlaw18_LexPlaces.l0 k a0 bt203.1 bt203.2.1 0 0) else (if (bt203.1.length : Int) = 0 then (if bt203.2.1 ≥ 0 then (if bt203.2.1 < (a0.size : Int) then ((casementlaw18_awake.f k).bind fun t208 => (some t208)) else (some false)) else (some false)) else (some false))))) = some r := h
  clear h
  by_cases c2 : (a0.size : Int) > 65536
  · rw [if_pos c2] at H
    have c2b0 : decide (65536 < (a0.size : Int)) = true := decide_eq_true c2
    have c2b1 : decide (65536 < a0.size) = true := decide_eq_true (by omega)
    clear c2
    replace H := Option.bind_eq_some_iff.mp H
    obtain ⟨t202, A30, H⟩ := H
    replace H : (some t202) = some r := H
    have A3 := Aside0.mk A30
    clear A30
    obtain rfl := Option.some.inj H
    go_enter Try.func5, Try.ntmps5
    go_wp2_with (first | (go_at_call 8; (with_reducible refine (casementlaw18_awake.calls k  t202 _ A3.out).mono ?_); rintro e w4 ⟨rfl, hb⟩; have n0_ := Aside0.mk (below_step (by repeat (first | (with_reducible first | exact HB.out | apply below_alloc | apply pw_below_drewN | apply below_drew1) | exact HB.out)) hb); clear HB; have HB := n0_; clear n0_; (try clear hb); (try clear hb2); (try clear hk); (try clear hi)))
    repeat (go_quiet (first | (go_at_call 8; (with_reducible refine (casementlaw18_awake.calls k  t202 _ A3.out).mono ?_); rintro e w4 ⟨rfl, hb⟩; have n0_ := Aside0.mk (below_step (by repeat (first | (with_reducible first | exact HB.out | apply below_alloc | apply pw_below_drewN | apply below_drew1) | exact HB.out)) hb); clear HB; have HB := n0_; clear n0_; (try clear hb); (try clear hb2); (try clear hk); (try clear hi))); try go_wp2_with (first | (go_at_call 8; (with_reducible refine (casementlaw18_awake.calls k  t202 _ A3.out).mono ?_); rintro e w4 ⟨rfl, hb⟩; have n0_ := Aside0.mk (below_step (by repeat (first | (with_reducible first | exact HB.out | apply below_alloc | apply pw_below_drewN | apply below_drew1) | exact HB.out)) hb); clear HB; have HB := n0_; clear n0_; (try clear hb); (try clear hb2); (try clear hk); (try clear hi))))
    go_ret
    exact ⟨by first | rfl | (simp [errW_none, errW_some] <;> rfl) | (simp [*, errW_none, errW_some] <;> rfl), by repeat (first | (with_reducible first | exact HB.out | apply below_alloc | apply pw_below_drewN | apply below_drew1) | exact HB.out)⟩
  · rw [if_neg c2] at H
    have c2b0 : decide (65536 < (a0.size : Int)) = false := decide_eq_false c2
    have c2b1 : decide (65536 < a0.size) = false := decide_eq_false (by omega)
    clear c2
    replace H := Option.bind_eq_some_iff.mp H
    obtain ⟨⟨t203, t204, t205⟩, A50, H⟩ := H
    replace H : (if t205 = 0 then (casementlaw18_LexPlaces.l0 k a0 t203 t204 0 0) else (if (t203.length : Int) = 0 then (if t204 ≥ 0 then (if t204 < (a0.size : Int) then ((casementlaw18_awake.f k).bind fun t208 => (some t208)) else (some false)) else (some false)) else (some false))) = some r := H
    have A5 := Aside0.mk A50
    clear A50
    by_cases c6 : t205 = 0
    · rw [if_pos c6] at H
      have c6b0 : (t205 == 0) = true := beq_iff_eq.mpr c6
      have c6b1 : (t205 != 0) = false := bne_eq_false_iff_eq.mpr c6
      clear c6
      have H' := Aside0.mk H
      clear H
      go_enter Try.func5, Try.ntmps5
      go_wp2_with (first | (go_at_call 9; (with_reducible refine (lex_Tokens.calls k a0 t203 t204 t205 _ A5.out).mono ?_); rintro e w7 ⟨v206, rfl, ho0, hb⟩; have n0_ := Aside0.mk (Kd.R_lower ho0 (below_size (by repeat (first | (with_reducible first | exact HB.out | apply below_alloc | apply pw_below_drewN | apply below_drew1) | exact HB.out)))); have n1_ := Aside0.mk (below_step (by repeat (first | (with_reducible first | exact HB.out | apply below_alloc | apply pw_below_drewN | apply below_drew1) | exact HB.out)) hb); clear HB; have HO207 := n0_; have HB := n1_; clear n0_ n1_; (try clear hb); (try clear hb2); (try clear hk); (try clear hi); (try clear ho0)))
      repeat (go_quiet (first | (go_at_call 9; (with_reducible refine (lex_Tokens.calls k a0 t203 t204 t205 _ A5.out).mono ?_); rintro e w7 ⟨v206, rfl, ho0, hb⟩; have n0_ := Aside0.mk (Kd.R_lower ho0 (below_size (by repeat (first | (with_reducible first | exact HB.out | apply below_alloc | apply pw_below_drewN | apply below_drew1) | exact HB.out)))); have n1_ := Aside0.mk (below_step (by repeat (first | (with_reducible first | exact HB.out | apply below_alloc | apply pw_below_drewN | apply below_drew1) | exact HB.out)) hb); clear HB; have HO207 := n0_; have HB := n1_; clear n0_ n1_; (try clear hb); (try clear hb2); (try clear hk); (try clear hi); (try clear ho0))); try go_wp2_with (first | (go_at_call 9; (with_reducible refine (lex_Tokens.calls k a0 t203 t204 t205 _ A5.out).mono ?_); rintro e w7 ⟨v206, rfl, ho0, hb⟩; have n0_ := Aside0.mk (Kd.R_lower ho0 (below_size (by repeat (first | (with_reducible first | exact HB.out | apply below_alloc | apply pw_below_drewN | apply below_drew1) | exact HB.out)))); have n1_ := Aside0.mk (below_step (by repeat (first | (with_reducible first | exact HB.out | apply below_alloc | apply pw_below_drewN | apply below_drew1) | exact HB.out)) hb); clear HB; have HO207 := n0_; have HB := n1_; clear n0_ n1_; (try clear hb); (try clear hb2); (try clear hk); (try clear hi); (try clear ho0))))
      go_loopg [6, 7] k (fun kq v6 v7 w' => ∃ (x6_1 : Int) (x7_1 : Int), v6 = .int .i64 x6_1 ∧ v7 = .int .i64 x7_1 ∧ Aside0 (casementlaw18_LexPlaces.l0 kq a0 t203 t204 x6_1 x7_1 = some r) ∧ Aside0 (kq ≤ k) ∧ Aside0 (Kd.R k33 33 w' w.heap.size (fun _ => True) v206 t203) ∧ Aside0 (Below w.heap.size w w'))
      case atStart => exact ⟨(0), (0), (by first | rfl | (simp; done) | (simp [*]; done) | (congr 2; generalize ByteArray.toList _ = l_; cases l_ <;> rfl)), (by first | rfl | (simp; done) | (simp [*]; done) | (congr 2; generalize ByteArray.toList _ = l_; cases l_ <;> rfl)), H', ⟨Nat.le_refl _⟩, ⟨by (with_reducible repeat (first | apply Kd.R_alloc | apply Kd.R_drewN | apply Kd.R_drew)); exact HO207.out⟩, ⟨by repeat (first | (with_reducible first | exact HB.out | apply below_alloc | apply pw_below_drewN | apply below_drew1) | exact HB.out)⟩⟩
      case round =>
        clear H'
        try clear c2
        try clear c2b0
        try clear c2b1
        try clear p2
        try clear c5
        try clear c6
        try clear c6b0
        try clear c6b1
        obtain ⟨x6_1, x7_1, rfl, rfl, HA, HK1, HO_3, HB⟩ := hrel
        cases gk with
        | zero => exact absurd HA.out (by simp [casementlaw18_LexPlaces.l0])
        | succ k1 =>
          have H := HA.out
          clear HA
          simp only [casementlaw18_LexPlaces.l0] at H
          by_cases c8 : x7_1 < (t203.length : Int)
          · rw [if_pos c8] at H
            have c8b0 : decide (x7_1 < (t203.length : Int)) = true := decide_eq_true c8
            clear c8
            by_cases c9 : 0 ≤ x7_1
            · rw [if_pos c9] at H
              have c9b0 : decide (0 ≤ x7_1) = true := decide_eq_true c9
              clear c9
              have HC10 := Aside0.mk H
              clear H
              obtain ⟨Ao11, co11, eo11⟩ := Kd.R_slice HO_3.out
              subst eo11
              have p210 : 0 ≤ (x7_1 : Int) := of_decide_eq_true (by first | (with_reducible assumption) | assumption)
              have q210 : x7_1 < (t203.length : Int) := of_decide_eq_true (by first | (with_reducible assumption) | assumption)
              obtain ⟨ad210, e210, hx210_0, hx210_1, hx210_2⟩ := at_T33 (Kd.R_reads' HO_3.out).2.2 x7_1 p210 q210
              cases e210
              replace p210 := eq_true p210
              replace q210 := eq_true q210
              go_upto_region 11 with (first | ((with_reducible refine gate_dst (N := 8) rfl ?_); (try (refine gate_guard (by rfl) ?_; dsimp only)); refine box_event ?hg (N := 8) ?hd (cs := #[.int .i64 0, .string (⟨#[]⟩ : ByteArray), .int .i64 0]) (t := 33) ?hr ?_; (case hd => rfl); (case hg => rfl); (case hr => first | (go_simp; done) | (go_simp; rfl)); intro gb211 hg w12 hbox hb; have n0_ := Aside0.mk (Kd.R_below (Kd.R_elderB (by (with_reducible repeat (first | apply Kd.R_alloc | apply Kd.R_drewN | apply Kd.R_drew)); exact HO_3.out) gb211 (Nat.le_of_eq hg.symm)) hb); have n1_ := Aside0.mk (below_step (by repeat (first | (with_reducible first | exact HB.out | apply below_alloc | apply pw_below_drewN | apply below_drew1) | exact HB.out)) hb); have n2_ := Aside0.mk (hbox); have n3_ := Aside0.mk ((by rw [hg]; exact (below_size (by repeat (first | (with_reducible first | exact HB.out | apply below_alloc | apply pw_below_drewN | apply below_drew1) | exact HB.out))) : w.heap.size ≤ gb211)); have n4_ := Aside0.mk ((by rw [hg]; exact (below_size (by repeat (first | (with_reducible first | exact HB.out | apply below_alloc | apply pw_below_drewN | apply below_drew1) | exact HB.out))) : w.heap.size ≤ gb211)); clear HO_3; clear HB; have HO_3 := n0_; have HB := n1_; have BK211 := n2_; have GW211 := n3_; have GE211 := n4_; clear n0_ n1_ n2_ n3_ n4_; clear hb hbox hg; have hcz13_0 : w12.cell? ⟨gb211, 0, none⟩ = some (.int .i64 0) := (blk_cell BK211.out 0).trans rfl; have hcz13_1 : w12.cell? ⟨gb211, 1, none⟩ = some (.string (⟨#[]⟩ : ByteArray)) := (blk_cell BK211.out 1).trans rfl; have hcz13_2 : w12.cell? ⟨gb211, 2, none⟩ = some (.int .i64 0) := (blk_cell BK211.out 2).trans rfl; have hfz13_0 := blk_frozen BK211.out 0; have hfz13_1 := blk_frozen BK211.out 1; have hfz13_2 := blk_frozen BK211.out 2))
              repeat (go_quiet (first | ((with_reducible refine gate_dst (N := 8) rfl ?_); (try (refine gate_guard (by rfl) ?_; dsimp only)); refine box_event ?hg (N := 8) ?hd (cs := #[.int .i64 0, .string (⟨#[]⟩ : ByteArray), .int .i64 0]) (t := 33) ?hr ?_; (case hd => rfl); (case hg => rfl); (case hr => first | (go_simp; done) | (go_simp; rfl)); intro gb211 hg w12 hbox hb; have n0_ := Aside0.mk (Kd.R_below (Kd.R_elderB (by (with_reducible repeat (first | apply Kd.R_alloc | apply Kd.R_drewN | apply Kd.R_drew)); exact HO_3.out) gb211 (Nat.le_of_eq hg.symm)) hb); have n1_ := Aside0.mk (below_step (by repeat (first | (with_reducible first | exact HB.out | apply below_alloc | apply pw_below_drewN | apply below_drew1) | exact HB.out)) hb); have n2_ := Aside0.mk (hbox); have n3_ := Aside0.mk ((by rw [hg]; exact (below_size (by repeat (first | (with_reducible first | exact HB.out | apply below_alloc | apply pw_below_drewN | apply below_drew1) | exact HB.out))) : w.heap.size ≤ gb211)); have n4_ := Aside0.mk ((by rw [hg]; exact (below_size (by repeat (first | (with_reducible first | exact HB.out | apply below_alloc | apply pw_below_drewN | apply below_drew1) | exact HB.out))) : w.heap.size ≤ gb211)); clear HO_3; clear HB; have HO_3 := n0_; have HB := n1_; have BK211 := n2_; have GW211 := n3_; have GE211 := n4_; clear n0_ n1_ n2_ n3_ n4_; clear hb hbox hg; have hcz13_0 : w12.cell? ⟨gb211, 0, none⟩ = some (.int .i64 0) := (blk_cell BK211.out 0).trans rfl; have hcz13_1 : w12.cell? ⟨gb211, 1, none⟩ = some (.string (⟨#[]⟩ : ByteArray)) := (blk_cell BK211.out 1).trans rfl; have hcz13_2 : w12.cell? ⟨gb211, 2, none⟩ = some (.int .i64 0) := (blk_cell BK211.out 2).trans rfl; have hfz13_0 := blk_frozen BK211.out 0; have hfz13_1 := blk_frozen BK211.out 1; have hfz13_2 := blk_frozen BK211.out 2)); go_upto_region 11 with (first | ((with_reducible refine gate_dst (N := 8) rfl ?_); (try (refine gate_guard (by rfl) ?_; dsimp only)); refine box_event ?hg (N := 8) ?hd (cs := #[.int .i64 0, .string (⟨#[]⟩ : ByteArray), .int .i64 0]) (t := 33) ?hr ?_; (case hd => rfl); (case hg => rfl); (case hr => first | (go_simp; done) | (go_simp; rfl)); intro gb211 hg w12 hbox hb; have n0_ := Aside0.mk (Kd.R_below (Kd.R_elderB (by (with_reducible repeat (first | apply Kd.R_alloc | apply Kd.R_drewN | apply Kd.R_drew)); exact HO_3.out) gb211 (Nat.le_of_eq hg.symm)) hb); have n1_ := Aside0.mk (below_step (by repeat (first | (with_reducible first | exact HB.out | apply below_alloc | apply pw_below_drewN | apply below_drew1) | exact HB.out)) hb); have n2_ := Aside0.mk (hbox); have n3_ := Aside0.mk ((by rw [hg]; exact (below_size (by repeat (first | (with_reducible first | exact HB.out | apply below_alloc | apply pw_below_drewN | apply below_drew1) | exact HB.out))) : w.heap.size ≤ gb211)); have n4_ := Aside0.mk ((by rw [hg]; exact (below_size (by repeat (first | (with_reducible first | exact HB.out | apply below_alloc | apply pw_below_drewN | apply below_drew1) | exact HB.out))) : w.heap.size ≤ gb211)); clear HO_3; clear HB; have HO_3 := n0_; have HB := n1_; have BK211 := n2_; have GW211 := n3_; have GE211 := n4_; clear n0_ n1_ n2_ n3_ n4_; clear hb hbox hg; have hcz13_0 : w12.cell? ⟨gb211, 0, none⟩ = some (.int .i64 0) := (blk_cell BK211.out 0).trans rfl; have hcz13_1 : w12.cell? ⟨gb211, 1, none⟩ = some (.string (⟨#[]⟩ : ByteArray)) := (blk_cell BK211.out 1).trans rfl; have hcz13_2 : w12.cell? ⟨gb211, 2, none⟩ = some (.int .i64 0) := (blk_cell BK211.out 2).trans rfl; have hfz13_0 := blk_frozen BK211.out 0; have hfz13_1 := blk_frozen BK211.out 1; have hfz13_2 := blk_frozen BK211.out 2)))
              (try simp only [Act.put, List.setIfInBounds_toArray, List.set_cons_zero, List.set_cons_succ])
              go_cut [68] (fun v68 wc => ∃ (kq : Nat) (x68_9 : Bool), v68 = .bool x68_9 ∧ Aside0 (casementlaw18_LexPlaces.j1 kq a0 t203 t204 x7_1 x68_9 ((rd_T33 t203 x7_1).f0) ((rd_T33 t203 x7_1).f1) ((rd_T33 t203 x7_1).f2) = some r) ∧ Aside0 (kq ≤ k1) ∧ Aside0 (Kd.R k33 33 wc w.heap.size (fun k_ => k_ ≠ gb211) (.slice (some ad210) t203.length co11) t203) ∧ Aside0 (wc.heap[gb211]? = some (.cells #[.int .i64 ((rd_T33 t203 x7_1).f0), .string ((rd_T33 t203 x7_1).f1), .int .i64 ((rd_T33 t203 x7_1).f2)] 33 (0, 0))) ∧ Aside0 (Below w.heap.size w wc))
              case first =>
                have H := HC10.out
                clear HC10
                by_cases c14 : ((rd_T33 t203 x7_1).f2) < x6_1
                · rw [if_pos c14] at H
                  have c14b0 : decide (((rd_T33 t203 x7_1).f2) < x6_1) = true := decide_eq_true c14
                  clear c14
                  (first | rw [c14b0] | (simp only [i64_w, i32_w]; rw [c14b0]) | skip)
                  have H' := Aside0.mk H
                  clear H
                  have hcz15_0 : w12.cell? ⟨gb211, 0, none⟩ = some (.int .i64 0) := (blk_cell BK211.out 0).trans rfl
                  have hcz15_1 : w12.cell? ⟨gb211, 1, none⟩ = some (.string (⟨#[]⟩ : ByteArray)) := (blk_cell BK211.out 1).trans rfl
                  have hcz15_2 : w12.cell? ⟨gb211, 2, none⟩ = some (.int .i64 0) := (blk_cell BK211.out 2).trans rfl
                  have hfz15_0 := blk_frozen BK211.out 0
                  have hfz15_1 := blk_frozen BK211.out 1
                  have hfz15_2 := blk_frozen BK211.out 2
                  go_wp2
                  repeat (go_quiet (fail); try go_wp2)
                  go_meet
                  case rel => exact ⟨_, (true), (by first | rfl | (simp; done) | (simp [*]; done) | (congr 2; generalize ByteArray.toList _ = l_; cases l_ <;> rfl)), H', ⟨by have := HK1.out; first | omega | exact Nat.le_refl _⟩, ⟨by (with_reducible repeat (first | apply Kd.R_alloc | apply Kd.R_drewN | apply Kd.R_drew)); exact Kd.R_mono (Kd.R_far (p := ⟨gb211, 2, none⟩) (Kd.R_far (p := ⟨gb211, 1, none⟩) (Kd.R_far (p := ⟨gb211, 0, none⟩) (Kd.R_mono HO_3.out (fun k_ hk => (⟨hk, hk.2⟩ : _ ∧ k_ ≠ gb211))) (fun _ hk => hk.2) (.int .i64 ((rd_T33 t203 x7_1).f0))) (fun _ hk => hk.2) (.string ((rd_T33 t203 x7_1).f1))) (fun _ hk => hk.2) (.int .i64 ((rd_T33 t203 x7_1).f2))) (fun _ hk => hk.1.2)⟩, ⟨by (with_reducible repeat (first | refine blk_drewN ?_ _ | refine blk_drew ?_ | refine blk_alloc ?_ _)); refine blk_put (cs := #[.int .i64 ((rd_T33 t203 x7_1).f0), .string ((rd_T33 t203 x7_1).f1), .int .i64 0]) ?_ 2 _ rfl; (with_reducible repeat (first | refine blk_drewN ?_ _ | refine blk_drew ?_ | refine blk_alloc ?_ _)); refine blk_put (cs := #[.int .i64 ((rd_T33 t203 x7_1).f0), .string (⟨#[]⟩ : ByteArray), .int .i64 0]) ?_ 1 _ rfl; (with_reducible repeat (first | refine blk_drewN ?_ _ | refine blk_drew ?_ | refine blk_alloc ?_ _)); refine blk_put (cs := #[.int .i64 0, .string (⟨#[]⟩ : ByteArray), .int .i64 0]) ?_ 0 _ rfl; (with_reducible repeat (first | refine blk_drewN ?_ _ | refine blk_drew ?_ | refine blk_alloc ?_ _)); exact BK211.out⟩, ⟨by repeat (first | (with_reducible first | exact HB.out | apply below_alloc | apply pw_below_drewN | apply below_drew1 | refine below_set ?_ GE211.out) | exact HB.out)⟩⟩
                · rw [if_neg c14] at H
                  have c14b0 : decide (((rd_T33 t203 x7_1).f2) < x6_1) = false := decide_eq_false c14
                  clear c14
                  (first | rw [c14b0] | (simp only [i64_w, i32_w]; rw [c14b0]) | skip)
                  by_cases c16 : ((rd_T33 t203 x7_1).f2) > (a0.size : Int)
                  · rw [if_pos c16] at H
                    have c16b0 : decide ((a0.size : Int) < ((rd_T33 t203 x7_1).f2)) = true := decide_eq_true c16
                    clear c16
                    have H' := Aside0.mk H
                    clear H
                    have hcz17_0 : w12.cell? ⟨gb211, 0, none⟩ = some (.int .i64 0) := (blk_cell BK211.out 0).trans rfl
                    have hcz17_1 : w12.cell? ⟨gb211, 1, none⟩ = some (.string (⟨#[]⟩ : ByteArray)) := (blk_cell BK211.out 1).trans rfl
                    have hcz17_2 : w12.cell? ⟨gb211, 2, none⟩ = some (.int .i64 0) := (blk_cell BK211.out 2).trans rfl
                    have hfz17_0 := blk_frozen BK211.out 0
                    have hfz17_1 := blk_frozen BK211.out 1
                    have hfz17_2 := blk_frozen BK211.out 2
                    go_wp2
                    repeat (go_quiet (fail); try go_wp2)
                    go_meet
                    case rel => exact ⟨_, (true), (by first | rfl | (simp; done) | (simp [*]; done) | (congr 2; generalize ByteArray.toList _ = l_; cases l_ <;> rfl)), H', ⟨by have := HK1.out; first | omega | exact Nat.le_refl _⟩, ⟨by (with_reducible repeat (first | apply Kd.R_alloc | apply Kd.R_drewN | apply Kd.R_drew)); exact Kd.R_mono (Kd.R_far (p := ⟨gb211, 2, none⟩) (Kd.R_far (p := ⟨gb211, 1, none⟩) (Kd.R_far (p := ⟨gb211, 0, none⟩) (Kd.R_mono HO_3.out (fun k_ hk => (⟨hk, hk.2⟩ : _ ∧ k_ ≠ gb211))) (fun _ hk => hk.2) (.int .i64 ((rd_T33 t203 x7_1).f0))) (fun _ hk => hk.2) (.string ((rd_T33 t203 x7_1).f1))) (fun _ hk => hk.2) (.int .i64 ((rd_T33 t203 x7_1).f2))) (fun _ hk => hk.1.2)⟩, ⟨by (with_reducible repeat (first | refine blk_drewN ?_ _ | refine blk_drew ?_ | refine blk_alloc ?_ _)); refine blk_put (cs := #[.int .i64 ((rd_T33 t203 x7_1).f0), .string ((rd_T33 t203 x7_1).f1), .int .i64 0]) ?_ 2 _ rfl; (with_reducible repeat (first | refine blk_drewN ?_ _ | refine blk_drew ?_ | refine blk_alloc ?_ _)); refine blk_put (cs := #[.int .i64 ((rd_T33 t203 x7_1).f0), .string (⟨#[]⟩ : ByteArray), .int .i64 0]) ?_ 1 _ rfl; (with_reducible repeat (first | refine blk_drewN ?_ _ | refine blk_drew ?_ | refine blk_alloc ?_ _)); refine blk_put (cs := #[.int .i64 0, .string (⟨#[]⟩ : ByteArray), .int .i64 0]) ?_ 0 _ rfl; (with_reducible repeat (first | refine blk_drewN ?_ _ | refine blk_drew ?_ | refine blk_alloc ?_ _)); exact BK211.out⟩, ⟨by repeat (first | (with_reducible first | exact HB.out | apply below_alloc | apply pw_below_drewN | apply below_drew1 | refine below_set ?_ GE211.out) | exact HB.out)⟩⟩
                  · rw [if_neg c16] at H
                    have c16b0 : decide ((a0.size : Int) < ((rd_T33 t203 x7_1).f2)) = false := decide_eq_false c16
                    clear c16
                    have H' := Aside0.mk H
                    clear H
                    have hcz18_0 : w12.cell? ⟨gb211, 0, none⟩ = some (.int .i64 0) := (blk_cell BK211.out 0).trans rfl
                    have hcz18_1 : w12.cell? ⟨gb211, 1, none⟩ = some (.string (⟨#[]⟩ : ByteArray)) := (blk_cell BK211.out 1).trans rfl
                    have hcz18_2 : w12.cell? ⟨gb211, 2, none⟩ = some (.int .i64 0) := (blk_cell BK211.out 2).trans rfl
                    have hfz18_0 := blk_frozen BK211.out 0
                    have hfz18_1 := blk_frozen BK211.out 1
                    have hfz18_2 := blk_frozen BK211.out 2
                    go_wp2
                    repeat (go_quiet (fail); try go_wp2)
                    go_meet
                    case rel => exact ⟨_, (((((rd_T33 t203 x7_1).f0) == 4) != (x7_1 == (wrap64 ((t203.length : Int) - 1))))), (by first | rfl | (simp; done) | (simp [*]; done) | (congr 2; generalize ByteArray.toList _ = l_; cases l_ <;> rfl)), H', ⟨by have := HK1.out; first | omega | exact Nat.le_refl _⟩, ⟨by (with_reducible repeat (first | apply Kd.R_alloc | apply Kd.R_drewN | apply Kd.R_drew)); exact Kd.R_mono (Kd.R_far (p := ⟨gb211, 2, none⟩) (Kd.R_far (p := ⟨gb211, 1, none⟩) (Kd.R_far (p := ⟨gb211, 0, none⟩) (Kd.R_mono HO_3.out (fun k_ hk => (⟨hk, hk.2⟩ : _ ∧ k_ ≠ gb211))) (fun _ hk => hk.2) (.int .i64 ((rd_T33 t203 x7_1).f0))) (fun _ hk => hk.2) (.string ((rd_T33 t203 x7_1).f1))) (fun _ hk => hk.2) (.int .i64 ((rd_T33 t203 x7_1).f2))) (fun _ hk => hk.1.2)⟩, ⟨by (with_reducible repeat (first | refine blk_drewN ?_ _ | refine blk_drew ?_ | refine blk_alloc ?_ _)); refine blk_put (cs := #[.int .i64 ((rd_T33 t203 x7_1).f0), .string ((rd_T33 t203 x7_1).f1), .int .i64 0]) ?_ 2 _ rfl; (with_reducible repeat (first | refine blk_drewN ?_ _ | refine blk_drew ?_ | refine blk_alloc ?_ _)); refine blk_put (cs := #[.int .i64 ((rd_T33 t203 x7_1).f0), .string (⟨#[]⟩ : ByteArray), .int .i64 0]) ?_ 1 _ rfl; (with_reducible repeat (first | refine blk_drewN ?_ _ | refine blk_drew ?_ | refine blk_alloc ?_ _)); refine blk_put (cs := #[.int .i64 0, .string (⟨#[]⟩ : ByteArray), .int .i64 0]) ?_ 0 _ rfl; (with_reducible repeat (first | refine blk_drewN ?_ _ | refine blk_drew ?_ | refine blk_alloc ?_ _)); exact BK211.out⟩, ⟨by repeat (first | (with_reducible first | exact HB.out | apply below_alloc | apply pw_below_drewN | apply below_drew1 | refine below_set ?_ GE211.out) | exact HB.out)⟩⟩
              case rest =>
                clear HC10
                try clear c1
                try clear c2
                try clear c2b0
                try clear c2b1
                try clear p2
                try clear q2
                try clear hx2
                try clear c5
                try clear c6
                try clear c6b0
                try clear c6b1
                try clear p6
                try clear c8
                try clear c8b0
                try clear c9
                try clear c9b0
                try clear c14
                try clear c14b0
                try clear c16
                try clear c16b0
                try clear hcz13_0
                try clear hcz13_1
                try clear hcz13_2
                try clear hcz15_0
                try clear hcz15_1
                try clear hcz15_2
                try clear hcz17_0
                try clear hcz17_1
                try clear hcz17_2
                try clear hcz18_0
                try clear hcz18_1
                try clear hcz18_2
                try clear hfz13_0
                try clear hfz13_1
                try clear hfz13_2
                try clear hfz15_0
                try clear hfz15_1
                try clear hfz15_2
                try clear hfz17_0
                try clear hfz17_1
                try clear hfz17_2
                try clear hfz18_0
                try clear hfz18_1
                try clear hfz18_2
                try clear hx210_0
                try clear hx210_1
                try clear hx210_2
                try clear p2
                try clear p210
                try clear q210
                obtain ⟨kq, x68_9, rfl, HA, HJ9, HO_3, BK211, HB⟩ := hcut
                cases kq with
                | zero => exact absurd HA.out (by simp [casementlaw18_LexPlaces.j1])
                | succ kj9 =>
                  have H := HA.out
                  clear HA
                  simp only [casementlaw18_LexPlaces.j1] at H
                  by_cases c19 : x68_9 = true
                  · subst c19
                    have H1 : (some false) = some r := by rw [if_pos rfl] at H; exact H
                    clear H
                    have H := H1
                    clear H1
                    obtain rfl := Option.some.inj H
                    go_wp2
                    repeat (go_quiet (fail); try go_wp2)
                    go_ret
                    exact ⟨by first | rfl | (simp [errW_none, errW_some] <;> rfl) | (simp [*, errW_none, errW_some] <;> rfl), by repeat (first | (with_reducible first | exact HB.out | apply below_alloc | apply pw_below_drewN | apply below_drew1 | refine below_set ?_ GE211.out) | exact HB.out)⟩
                  · replace c19 := Bool.eq_false_iff.mpr c19
                    subst c19
                    have H1 : (if ((rd_T33 t203 x7_1).f0) = 1 then (if (((rd_T33 t203 x7_1).f1).size : Int) > (wrap64 ((a0.size : Int) - ((rd_T33 t203 x7_1).f2))) then (some false) else (if 0 ≤ ((rd_T33 t203 x7_1).f2) then (if ((rd_T33 t203 x7_1).f2) ≤ (wrap64 (((rd_T33 t203 x7_1).f2) + (((rd_T33 t203 x7_1).f1).size : Int))) then (if (wrap64 (((rd_T33 t203 x7_1).f2) + (((rd_T33 t203 x7_1).f1).size : Int))) ≤ (a0.size : Int) then (if (a0.extract (((rd_T33 t203 x7_1).f2) : Int).toNat ((wrap64 (((rd_T33 t203 x7_1).f2) + (((rd_T33 t203 x7_1).f1).size : Int))) : Int).toNat).toList = ((rd_T33 t203 x7_1).f1).toList then (casementlaw18_LexPlaces.l0 kj9 a0 t203 t204 (wrap64 (((rd_T33 t203 x7_1).f2) + (mx 1 (((rd_T33 t203 x7_1).f1).size : Int)))) (wrap64 (x7_1 + 1))) else (some false)) else (none)) else (none)) else (none))) else (if ((rd_T33 t203 x7_1).f0) = 3 then (if (((rd_T33 t203 x7_1).f1).size : Int) > (wrap64 ((a0.size : Int) - ((rd_T33 t203 x7_1).f2))) then (some false) else (if 0 ≤ ((rd_T33 t203 x7_1).f2) then (if ((rd_T33 t203 x7_1).f2) ≤ (wrap64 (((rd_T33 t203 x7_1).f2) + (((rd_T33 t203 x7_1).f1).size : Int))) then (if (wrap64 (((rd_T33 t203 x7_1).f2) + (((rd_T33 t203 x7_1).f1).size : Int))) ≤ (a0.size : Int) then (if (a0.extract (((rd_T33 t203 x7_1).f2) : Int).toNat ((wrap64 (((rd_T33 t203 x7_1).f2) + (((rd_T33 t203 x7_1).f1).size : Int))) : Int).toNat).toList = ((rd_T33 t203 x7_1).f1).toList then (casementlaw18_LexPlaces.l0 kj9 a0 t203 t204 (wrap64 (((rd_T33 t203 x7_1).f2) + (mx 1 (((rd_T33 t203 x7_1).f1).size : Int)))) (wrap64 (x7_1 + 1))) else (some false)) else (none)) else (none)) else (none))) else (casementlaw18_LexPlaces.l0 kj9 a0 t203 t204 (wrap64 (((rd_T33 t203 x7_1).f2) + (mx 1 (((rd_T33 t203 x7_1).f1).size : Int)))) (wrap64 (x7_1 + 1))))) = some r := by rw [if_neg (show ¬ (false = true) by decide)] at H; exact H
                    clear H
                    have H := H1
                    clear H1
                    by_cases c20 : ((rd_T33 t203 x7_1).f0) = 1
                    · rw [if_pos c20] at H
                      have c20b0 : (((rd_T33 t203 x7_1).f0) == 1) = true := beq_iff_eq.mpr c20
                      have c20b1 : (((rd_T33 t203 x7_1).f0) != 1) = false := bne_eq_false_iff_eq.mpr c20
                      clear c20
                      by_cases c21 : (((rd_T33 t203 x7_1).f1).size : Int) > (wrap64 ((a0.size : Int) - ((rd_T33 t203 x7_1).f2)))
                      · rw [if_pos c21] at H
                        have c21b0 : decide ((wrap64 ((a0.size : Int) - ((rd_T33 t203 x7_1).f2))) < (((rd_T33 t203 x7_1).f1).size : Int)) = true := decide_eq_true c21
                        clear c21
                        obtain rfl := Option.some.inj H
                        have hcz22_0 : wc.cell? ⟨gb211, 0, none⟩ = some (.int .i64 ((rd_T33 t203 x7_1).f0)) := (blk_cell BK211.out 0).trans rfl
                        have hcz22_1 : wc.cell? ⟨gb211, 1, none⟩ = some (.string ((rd_T33 t203 x7_1).f1)) := (blk_cell BK211.out 1).trans rfl
                        have hcz22_2 : wc.cell? ⟨gb211, 2, none⟩ = some (.int .i64 ((rd_T33 t203 x7_1).f2)) := (blk_cell BK211.out 2).trans rfl
                        have hfz22_0 := blk_frozen BK211.out 0
                        have hfz22_1 := blk_frozen BK211.out 1
                        have hfz22_2 := blk_frozen BK211.out 2
                        go_wp2
                        repeat (go_quiet (fail); try go_wp2)
                        go_ret
                        exact ⟨by first | rfl | (simp [errW_none, errW_some] <;> rfl) | (simp [*, errW_none, errW_some] <;> rfl), by repeat (first | (with_reducible first | exact HB.out | apply below_alloc | apply pw_below_drewN | apply below_drew1 | refine below_set ?_ GE211.out) | exact HB.out)⟩
                      · rw [if_neg c21] at H
                        have c21b0 : decide ((wrap64 ((a0.size : Int) - ((rd_T33 t203 x7_1).f2))) < (((rd_T33 t203 x7_1).f1).size : Int)) = false := decide_eq_false c21
                        clear c21
                        by_cases c23 : 0 ≤ ((rd_T33 t203 x7_1).f2)
                        · rw [if_pos c23] at H
                          have c23b0 := eq_true c23
                          have c23b1 : decide (0 ≤ ((rd_T33 t203 x7_1).f2)) = true := decide_eq_true c23
                          clear c23
                          by_cases c24 : ((rd_T33 t203 x7_1).f2) ≤ (wrap64 (((rd_T33 t203 x7_1).f2) + (((rd_T33 t203 x7_1).f1).size : Int)))
                          · rw [if_pos c24] at H
                            have c24b0 := eq_true c24
                            have c24b1 : decide (((rd_T33 t203 x7_1).f2) ≤ (wrap64 (((rd_T33 t203 x7_1).f2) + (((rd_T33 t203 x7_1).f1).size : Int)))) = true := decide_eq_true c24
                            by_cases c25 : (wrap64 (((rd_T33 t203 x7_1).f2) + (((rd_T33 t203 x7_1).f1).size : Int))) ≤ (a0.size : Int)
                            · rw [if_pos c25] at H
                              have c25b0 := eq_true c25
                              have c25b1 : decide ((wrap64 (((rd_T33 t203 x7_1).f2) + (((rd_T33 t203 x7_1).f1).size : Int))) ≤ (a0.size : Int)) = true := decide_eq_true c25
                              by_cases c26 : (a0.extract (((rd_T33 t203 x7_1).f2) : Int).toNat ((wrap64 (((rd_T33 t203 x7_1).f2) + (((rd_T33 t203 x7_1).f1).size : Int))) : Int).toNat).toList = ((rd_T33 t203 x7_1).f1).toList
                              · rw [if_pos c26] at H
                                have c26b0 : ((a0.extract (((rd_T33 t203 x7_1).f2) : Int).toNat ((wrap64 (((rd_T33 t203 x7_1).f2) + (((rd_T33 t203 x7_1).f1).size : Int))) : Int).toNat).toList == ((rd_T33 t203 x7_1).f1).toList) = true := beq_iff_eq.mpr c26
                                have c26b1 : ((a0.extract (((rd_T33 t203 x7_1).f2) : Int).toNat ((wrap64 (((rd_T33 t203 x7_1).f2) + (((rd_T33 t203 x7_1).f1).size : Int))) : Int).toNat).toList != ((rd_T33 t203 x7_1).f1).toList) = false := bne_eq_false_iff_eq.mpr c26
                                clear c26
                                obtain ⟨ji27, hji27⟩ : ∃ j_ : Int, (mx 1 (((rd_T33 t203 x7_1).f1).size : Int)) = j_ := ⟨_, rfl⟩
                                replace H : (casementlaw18_LexPlaces.l0 kj9 a0 t203 t204 (wrap64 (((rd_T33 t203 x7_1).f2) + (ji27))) (wrap64 (x7_1 + 1))) = some r := by first | (rw [hji27] at H; exact H) | (simp only [hji27] at H ⊢; exact H)
                                have hji27_ : (if 1 < (((rd_T33 t203 x7_1).f1).size : Int) then (((rd_T33 t203 x7_1).f1).size : Int) else 1) = ji27 := hji27
                                have H' := Aside0.mk H
                                clear H
                                have hcz28_0 : wc.cell? ⟨gb211, 0, none⟩ = some (.int .i64 ((rd_T33 t203 x7_1).f0)) := (blk_cell BK211.out 0).trans rfl
                                have hcz28_1 : wc.cell? ⟨gb211, 1, none⟩ = some (.string ((rd_T33 t203 x7_1).f1)) := (blk_cell BK211.out 1).trans rfl
                                have hcz28_2 : wc.cell? ⟨gb211, 2, none⟩ = some (.int .i64 ((rd_T33 t203 x7_1).f2)) := (blk_cell BK211.out 2).trans rfl
                                have hfz28_0 := blk_frozen BK211.out 0
                                have hfz28_1 := blk_frozen BK211.out 1
                                have hfz28_2 := blk_frozen BK211.out 2
                                go_wp2
                                repeat (go_quiet (fail); try go_wp2)
                                go_roundg kj9
                                case measure => have := HK1.out; have := HJ9.out; omega
                                case rel => exact ⟨(wrap64 (((rd_T33 t203 x7_1).f2) + (ji27))), (wrap64 (x7_1 + 1)), (by first | rfl | (simp; done) | (simp only [← hji27] <;> (first | rfl | simp)) | (simp [*]; done)), (by first | rfl | (simp; done) | (simp [*]; done) | (congr 2; generalize ByteArray.toList _ = l_; cases l_ <;> rfl)), H', ⟨by have := HK1.out; have := HJ9.out; omega⟩, ⟨by (with_reducible repeat (first | apply Kd.R_alloc | apply Kd.R_drewN | apply Kd.R_drew)); exact Kd.R_mono HO_3.out (fun _ hk => trivial)⟩, ⟨by repeat (first | (with_reducible first | exact HB.out | apply below_alloc | apply pw_below_drewN | apply below_drew1 | refine below_set ?_ GE211.out) | exact HB.out)⟩⟩
                              · rw [if_neg c26] at H
                                have c26b0 : ((a0.extract (((rd_T33 t203 x7_1).f2) : Int).toNat ((wrap64 (((rd_T33 t203 x7_1).f2) + (((rd_T33 t203 x7_1).f1).size : Int))) : Int).toNat).toList == ((rd_T33 t203 x7_1).f1).toList) = false := beq_eq_false_iff_ne.mpr c26
                                have c26b1 : ((a0.extract (((rd_T33 t203 x7_1).f2) : Int).toNat ((wrap64 (((rd_T33 t203 x7_1).f2) + (((rd_T33 t203 x7_1).f1).size : Int))) : Int).toNat).toList != ((rd_T33 t203 x7_1).f1).toList) = true := bne_iff_ne.mpr c26
                                obtain rfl := Option.some.inj H
                                have hcz29_0 : wc.cell? ⟨gb211, 0, none⟩ = some (.int .i64 ((rd_T33 t203 x7_1).f0)) := (blk_cell BK211.out 0).trans rfl
                                have hcz29_1 : wc.cell? ⟨gb211, 1, none⟩ = some (.string ((rd_T33 t203 x7_1).f1)) := (blk_cell BK211.out 1).trans rfl
                                have hcz29_2 : wc.cell? ⟨gb211, 2, none⟩ = some (.int .i64 ((rd_T33 t203 x7_1).f2)) := (blk_cell BK211.out 2).trans rfl
                                have hfz29_0 := blk_frozen BK211.out 0
                                have hfz29_1 := blk_frozen BK211.out 1
                                have hfz29_2 := blk_frozen BK211.out 2
                                go_wp2
                                repeat (go_quiet (fail); try go_wp2)
                                go_ret
                                exact ⟨by first | rfl | (simp [errW_none, errW_some] <;> rfl) | (simp [*, errW_none, errW_some] <;> rfl), by repeat (first | (with_reducible first | exact HB.out | apply below_alloc | apply pw_below_drewN | apply below_drew1 | refine below_set ?_ GE211.out) | exact HB.out)⟩
                            · rw [if_neg c25] at H
                              exact absurd H (by simp)
                          · rw [if_neg c24] at H
                            exact absurd H (by simp)
                        · rw [if_neg c23] at H
                          exact absurd H (by simp)
                    · rw [if_neg c20] at H
                      have c20b0 : (((rd_T33 t203 x7_1).f0) == 1) = false := beq_eq_false_iff_ne.mpr c20
                      have c20b1 : (((rd_T33 t203 x7_1).f0) != 1) = true := bne_iff_ne.mpr c20
                      by_cases c30 : ((rd_T33 t203 x7_1).f0) = 3
                      · rw [if_pos c30] at H
                        have c30b0 : (((rd_T33 t203 x7_1).f0) == 3) = true := beq_iff_eq.mpr c30
                        have c30b1 : (((rd_T33 t203 x7_1).f0) != 3) = false := bne_eq_false_iff_eq.mpr c30
                        clear c30
                        by_cases c31 : (((rd_T33 t203 x7_1).f1).size : Int) > (wrap64 ((a0.size : Int) - ((rd_T33 t203 x7_1).f2)))
                        · rw [if_pos c31] at H
                          have c31b0 : decide ((wrap64 ((a0.size : Int) - ((rd_T33 t203 x7_1).f2))) < (((rd_T33 t203 x7_1).f1).size : Int)) = true := decide_eq_true c31
                          clear c31
                          obtain rfl := Option.some.inj H
                          have hcz32_0 : wc.cell? ⟨gb211, 0, none⟩ = some (.int .i64 ((rd_T33 t203 x7_1).f0)) := (blk_cell BK211.out 0).trans rfl
                          have hcz32_1 : wc.cell? ⟨gb211, 1, none⟩ = some (.string ((rd_T33 t203 x7_1).f1)) := (blk_cell BK211.out 1).trans rfl
                          have hcz32_2 : wc.cell? ⟨gb211, 2, none⟩ = some (.int .i64 ((rd_T33 t203 x7_1).f2)) := (blk_cell BK211.out 2).trans rfl
                          have hfz32_0 := blk_frozen BK211.out 0
                          have hfz32_1 := blk_frozen BK211.out 1
                          have hfz32_2 := blk_frozen BK211.out 2
                          go_wp2
                          repeat (go_quiet (fail); try go_wp2)
                          go_ret
                          exact ⟨by first | rfl | (simp [errW_none, errW_some] <;> rfl) | (simp [*, errW_none, errW_some] <;> rfl), by repeat (first | (with_reducible first | exact HB.out | apply below_alloc | apply pw_below_drewN | apply below_drew1 | refine below_set ?_ GE211.out) | exact HB.out)⟩
                        · rw [if_neg c31] at H
                          have c31b0 : decide ((wrap64 ((a0.size : Int) - ((rd_T33 t203 x7_1).f2))) < (((rd_T33 t203 x7_1).f1).size : Int)) = false := decide_eq_false c31
                          clear c31
                          by_cases c33 : 0 ≤ ((rd_T33 t203 x7_1).f2)
                          · rw [if_pos c33] at H
                            have c33b0 := eq_true c33
                            have c33b1 : decide (0 ≤ ((rd_T33 t203 x7_1).f2)) = true := decide_eq_true c33
                            clear c33
                            by_cases c34 : ((rd_T33 t203 x7_1).f2) ≤ (wrap64 (((rd_T33 t203 x7_1).f2) + (((rd_T33 t203 x7_1).f1).size : Int)))
                            · rw [if_pos c34] at H
                              have c34b0 := eq_true c34
                              have c34b1 : decide (((rd_T33 t203 x7_1).f2) ≤ (wrap64 (((rd_T33 t203 x7_1).f2) + (((rd_T33 t203 x7_1).f1).size : Int)))) = true := decide_eq_true c34
                              by_cases c35 : (wrap64 (((rd_T33 t203 x7_1).f2) + (((rd_T33 t203 x7_1).f1).size : Int))) ≤ (a0.size : Int)
                              · rw [if_pos c35] at H
                                have c35b0 := eq_true c35
                                have c35b1 : decide ((wrap64 (((rd_T33 t203 x7_1).f2) + (((rd_T33 t203 x7_1).f1).size : Int))) ≤ (a0.size : Int)) = true := decide_eq_true c35
                                by_cases c36 : (a0.extract (((rd_T33 t203 x7_1).f2) : Int).toNat ((wrap64 (((rd_T33 t203 x7_1).f2) + (((rd_T33 t203 x7_1).f1).size : Int))) : Int).toNat).toList = ((rd_T33 t203 x7_1).f1).toList
                                · rw [if_pos c36] at H
                                  have c36b0 : ((a0.extract (((rd_T33 t203 x7_1).f2) : Int).toNat ((wrap64 (((rd_T33 t203 x7_1).f2) + (((rd_T33 t203 x7_1).f1).size : Int))) : Int).toNat).toList == ((rd_T33 t203 x7_1).f1).toList) = true := beq_iff_eq.mpr c36
                                  have c36b1 : ((a0.extract (((rd_T33 t203 x7_1).f2) : Int).toNat ((wrap64 (((rd_T33 t203 x7_1).f2) + (((rd_T33 t203 x7_1).f1).size : Int))) : Int).toNat).toList != ((rd_T33 t203 x7_1).f1).toList) = false := bne_eq_false_iff_eq.mpr c36
                                  clear c36
                                  obtain ⟨ji37, hji37⟩ : ∃ j_ : Int, (mx 1 (((rd_T33 t203 x7_1).f1).size : Int)) = j_ := ⟨_, rfl⟩
                                  replace H : (casementlaw18_LexPlaces.l0 kj9 a0 t203 t204 (wrap64 (((rd_T33 t203 x7_1).f2) + (ji37))) (wrap64 (x7_1 + 1))) = some r := by first | (rw [hji37] at H; exact H) | (simp only [hji37] at H ⊢; exact H)
                                  have hji37_ : (if 1 < (((rd_T33 t203 x7_1).f1).size : Int) then (((rd_T33 t203 x7_1).f1).size : Int) else 1) = ji37 := hji37
                                  have H' := Aside0.mk H
                                  clear H
                                  have hcz38_0 : wc.cell? ⟨gb211, 0, none⟩ = some (.int .i64 ((rd_T33 t203 x7_1).f0)) := (blk_cell BK211.out 0).trans rfl
                                  have hcz38_1 : wc.cell? ⟨gb211, 1, none⟩ = some (.string ((rd_T33 t203 x7_1).f1)) := (blk_cell BK211.out 1).trans rfl
                                  have hcz38_2 : wc.cell? ⟨gb211, 2, none⟩ = some (.int .i64 ((rd_T33 t203 x7_1).f2)) := (blk_cell BK211.out 2).trans rfl
                                  have hfz38_0 := blk_frozen BK211.out 0
                                  have hfz38_1 := blk_frozen BK211.out 1
                                  have hfz38_2 := blk_frozen BK211.out 2
                                  go_wp2
                                  repeat (go_quiet (fail); try go_wp2)
                                  go_roundg kj9
                                  case measure => have := HK1.out; have := HJ9.out; omega
                                  case rel => exact ⟨(wrap64 (((rd_T33 t203 x7_1).f2) + (ji37))), (wrap64 (x7_1 + 1)), (by first | rfl | (simp; done) | (simp only [← hji37] <;> (first | rfl | simp)) | (simp [*]; done)), (by first | rfl | (simp; done) | (simp [*]; done) | (congr 2; generalize ByteArray.toList _ = l_; cases l_ <;> rfl)), H', ⟨by have := HK1.out; have := HJ9.out; omega⟩, ⟨by (with_reducible repeat (first | apply Kd.R_alloc | apply Kd.R_drewN | apply Kd.R_drew)); exact Kd.R_mono HO_3.out (fun _ hk => trivial)⟩, ⟨by repeat (first | (with_reducible first | exact HB.out | apply below_alloc | apply pw_below_drewN | apply below_drew1 | refine below_set ?_ GE211.out) | exact HB.out)⟩⟩
                                · rw [if_neg c36] at H
                                  have c36b0 : ((a0.extract (((rd_T33 t203 x7_1).f2) : Int).toNat ((wrap64 (((rd_T33 t203 x7_1).f2) + (((rd_T33 t203 x7_1).f1).size : Int))) : Int).toNat).toList == ((rd_T33 t203 x7_1).f1).toList) = false := beq_eq_false_iff_ne.mpr c36
                                  have c36b1 : ((a0.extract (((rd_T33 t203 x7_1).f2) : Int).toNat ((wrap64 (((rd_T33 t203 x7_1).f2) + (((rd_T33 t203 x7_1).f1).size : Int))) : Int).toNat).toList != ((rd_T33 t203 x7_1).f1).toList) = true := bne_iff_ne.mpr c36
                                  obtain rfl := Option.some.inj H
                                  have hcz39_0 : wc.cell? ⟨gb211, 0, none⟩ = some (.int .i64 ((rd_T33 t203 x7_1).f0)) := (blk_cell BK211.out 0).trans rfl
                                  have hcz39_1 : wc.cell? ⟨gb211, 1, none⟩ = some (.string ((rd_T33 t203 x7_1).f1)) := (blk_cell BK211.out 1).trans rfl
                                  have hcz39_2 : wc.cell? ⟨gb211, 2, none⟩ = some (.int .i64 ((rd_T33 t203 x7_1).f2)) := (blk_cell BK211.out 2).trans rfl
                                  have hfz39_0 := blk_frozen BK211.out 0
                                  have hfz39_1 := blk_frozen BK211.out 1
                                  have hfz39_2 := blk_frozen BK211.out 2
                                  go_wp2
                                  repeat (go_quiet (fail); try go_wp2)
                                  go_ret
                                  exact ⟨by first | rfl | (simp [errW_none, errW_some] <;> rfl) | (simp [*, errW_none, errW_some] <;> rfl), by repeat (first | (with_reducible first | exact HB.out | apply below_alloc | apply pw_below_drewN | apply below_drew1 | refine below_set ?_ GE211.out) | exact HB.out)⟩
                              · rw [if_neg c35] at H
                                exact absurd H (by simp)
                            · rw [if_neg c34] at H
                              exact absurd H (by simp)
                          · rw [if_neg c33] at H
                            exact absurd H (by simp)
                      · rw [if_neg c30] at H
                        have c30b0 : (((rd_T33 t203 x7_1).f0) == 3) = false := beq_eq_false_iff_ne.mpr c30
                        have c30b1 : (((rd_T33 t203 x7_1).f0) != 3) = true := bne_iff_ne.mpr c30
                        obtain ⟨ji40, hji40⟩ : ∃ j_ : Int, (mx 1 (((rd_T33 t203 x7_1).f1).size : Int)) = j_ := ⟨_, rfl⟩
                        replace H : (casementlaw18_LexPlaces.l0 kj9 a0 t203 t204 (wrap64 (((rd_T33 t203 x7_1).f2) + (ji40))) (wrap64 (x7_1 + 1))) = some r := by first | (rw [hji40] at H; exact H) | (simp only [hji40] at H ⊢; exact H)
                        have hji40_ : (if 1 < (((rd_T33 t203 x7_1).f1).size : Int) then (((rd_T33 t203 x7_1).f1).size : Int) else 1) = ji40 := hji40
                        have H' := Aside0.mk H
                        clear H
                        have hcz41_0 : wc.cell? ⟨gb211, 0, none⟩ = some (.int .i64 ((rd_T33 t203 x7_1).f0)) := (blk_cell BK211.out 0).trans rfl
                        have hcz41_1 : wc.cell? ⟨gb211, 1, none⟩ = some (.string ((rd_T33 t203 x7_1).f1)) := (blk_cell BK211.out 1).trans rfl
                        have hcz41_2 : wc.cell? ⟨gb211, 2, none⟩ = some (.int .i64 ((rd_T33 t203 x7_1).f2)) := (blk_cell BK211.out 2).trans rfl
                        have hfz41_0 := blk_frozen BK211.out 0
                        have hfz41_1 := blk_frozen BK211.out 1
                        have hfz41_2 := blk_frozen BK211.out 2
                        go_wp2
                        repeat (go_quiet (fail); try go_wp2)
                        go_roundg kj9
                        case measure => have := HK1.out; have := HJ9.out; omega
                        case rel => exact ⟨(wrap64 (((rd_T33 t203 x7_1).f2) + (ji40))), (wrap64 (x7_1 + 1)), (by first | rfl | (simp; done) | (simp only [← hji40] <;> (first | rfl | simp)) | (simp [*]; done)), (by first | rfl | (simp; done) | (simp [*]; done) | (congr 2; generalize ByteArray.toList _ = l_; cases l_ <;> rfl)), H', ⟨by have := HK1.out; have := HJ9.out; omega⟩, ⟨by (with_reducible repeat (first | apply Kd.R_alloc | apply Kd.R_drewN | apply Kd.R_drew)); exact Kd.R_mono HO_3.out (fun _ hk => trivial)⟩, ⟨by repeat (first | (with_reducible first | exact HB.out | apply below_alloc | apply pw_below_drewN | apply below_drew1 | refine below_set ?_ GE211.out) | exact HB.out)⟩⟩
            · rw [if_neg c9] at H
              exact absurd H (by simp)
          · rw [if_neg c8] at H
            have c8b0 : decide (x7_1 < (t203.length : Int)) = false := decide_eq_false c8
            clear c8
            by_cases c42 : t204 = 0
            · rw [if_pos c42] at H
              have c42b0 : (t204 == 0) = true := beq_iff_eq.mpr c42
              have c42b1 : (t204 != 0) = false := bne_eq_false_iff_eq.mpr c42
              clear c42
              by_cases c43 : (t203.length : Int) > 0
              · rw [if_pos c43] at H
                have c43b0 : decide (0 < (t203.length : Int)) = true := decide_eq_true c43
                have c43b1 : decide (0 < t203.length) = true := decide_eq_true (by omega)
                clear c43
                replace H := Option.bind_eq_some_iff.mp H
                obtain ⟨t209, A440, H⟩ := H
                replace H : (some t209) = some r := H
                have A44 := Aside0.mk A440
                clear A440
                obtain rfl := Option.some.inj H
                obtain ⟨Ao45, co45, eo45⟩ := Kd.R_slice HO_3.out
                subst eo45
                go_wp2_with (first | (go_at_call 8; (with_reducible refine (casementlaw18_awake.calls k1  t209 _ A44.out).mono ?_); rintro e w46 ⟨rfl, hb⟩; have n0_ := Aside0.mk (Kd.R_below (by (with_reducible repeat (first | apply Kd.R_alloc | apply Kd.R_drewN | apply Kd.R_drew)); exact HO_3.out) hb); have n1_ := Aside0.mk (below_step (by repeat (first | (with_reducible first | exact HB.out | apply below_alloc | apply pw_below_drewN | apply below_drew1) | exact HB.out)) hb); clear HO_3; clear HB; have HO_3 := n0_; have HB := n1_; clear n0_ n1_; (try clear hb); (try clear hb2); (try clear hk); (try clear hi)))
                repeat (go_quiet (first | (go_at_call 8; (with_reducible refine (casementlaw18_awake.calls k1  t209 _ A44.out).mono ?_); rintro e w46 ⟨rfl, hb⟩; have n0_ := Aside0.mk (Kd.R_below (by (with_reducible repeat (first | apply Kd.R_alloc | apply Kd.R_drewN | apply Kd.R_drew)); exact HO_3.out) hb); have n1_ := Aside0.mk (below_step (by repeat (first | (with_reducible first | exact HB.out | apply below_alloc | apply pw_below_drewN | apply below_drew1) | exact HB.out)) hb); clear HO_3; clear HB; have HO_3 := n0_; have HB := n1_; clear n0_ n1_; (try clear hb); (try clear hb2); (try clear hk); (try clear hi))); try go_wp2_with (first | (go_at_call 8; (with_reducible refine (casementlaw18_awake.calls k1  t209 _ A44.out).mono ?_); rintro e w46 ⟨rfl, hb⟩; have n0_ := Aside0.mk (Kd.R_below (by (with_reducible repeat (first | apply Kd.R_alloc | apply Kd.R_drewN | apply Kd.R_drew)); exact HO_3.out) hb); have n1_ := Aside0.mk (below_step (by repeat (first | (with_reducible first | exact HB.out | apply below_alloc | apply pw_below_drewN | apply below_drew1) | exact HB.out)) hb); clear HO_3; clear HB; have HO_3 := n0_; have HB := n1_; clear n0_ n1_; (try clear hb); (try clear hb2); (try clear hk); (try clear hi))))
                go_ret
                exact ⟨by first | rfl | (simp [errW_none, errW_some] <;> rfl) | (simp [*, errW_none, errW_some] <;> rfl), by repeat (first | (with_reducible first | exact HB.out | apply below_alloc | apply pw_below_drewN | apply below_drew1) | exact HB.out)⟩
              · rw [if_neg c43] at H
                have c43b0 : decide (0 < (t203.length : Int)) = false := decide_eq_false c43
                have c43b1 : decide (0 < t203.length) = false := decide_eq_false (by omega)
                clear c43
                obtain rfl := Option.some.inj H
                obtain ⟨Ao47, co47, eo47⟩ := Kd.R_slice HO_3.out
                subst eo47
                go_wp2
                repeat (go_quiet (fail); try go_wp2)
                go_ret
                exact ⟨by first | rfl | (simp [errW_none, errW_some] <;> rfl) | (simp [*, errW_none, errW_some] <;> rfl), by repeat (first | (with_reducible first | exact HB.out | apply below_alloc | apply pw_below_drewN | apply below_drew1) | exact HB.out)⟩
            · rw [if_neg c42] at H
              have c42b0 : (t204 == 0) = false := beq_eq_false_iff_ne.mpr c42
              have c42b1 : (t204 != 0) = true := bne_iff_ne.mpr c42
              obtain rfl := Option.some.inj H
              obtain ⟨Ao48, co48, eo48⟩ := Kd.R_slice HO_3.out
              subst eo48
              go_wp2
              repeat (go_quiet (fail); try go_wp2)
              go_ret
              exact ⟨by first | rfl | (simp [errW_none, errW_some] <;> rfl) | (simp [*, errW_none, errW_some] <;> rfl), by repeat (first | (with_reducible first | exact HB.out | apply below_alloc | apply pw_below_drewN | apply below_drew1) | exact HB.out)⟩
    · rw [if_neg c6] at H
      have c6b0 : (t205 == 0) = false := beq_eq_false_iff_ne.mpr c6
      have c6b1 : (t205 != 0) = true := bne_iff_ne.mpr c6
      by_cases c49 : (t203.length : Int) = 0
      · rw [if_pos c49] at H
        have c49b0 : ((t203.length : Int) == 0) = true := beq_iff_eq.mpr c49
        have c49b1 : ((t203.length : Int) != 0) = false := bne_eq_false_iff_eq.mpr c49
        clear c49
        by_cases c50 : t204 ≥ 0
        · rw [if_pos c50] at H
          have c50b0 : decide (0 ≤ t204) = true := decide_eq_true c50
          clear c50
          by_cases c51 : t204 < (a0.size : Int)
          · rw [if_pos c51] at H
            have c51b0 : decide (t204 < (a0.size : Int)) = true := decide_eq_true c51
            clear c51
            replace H := Option.bind_eq_some_iff.mp H
            obtain ⟨t208, A520, H⟩ := H
            replace H : (some t208) = some r := H
            have A52 := Aside0.mk A520
            clear A520
            obtain rfl := Option.some.inj H
            go_enter Try.func5, Try.ntmps5
            go_wp2_with (first | (go_at_call 9; (with_reducible refine (lex_Tokens.calls k a0 t203 t204 t205 _ A5.out).mono ?_); rintro e w53 ⟨v206, rfl, ho0, hb⟩; have n0_ := Aside0.mk (Kd.R_lower ho0 (below_size (by repeat (first | (with_reducible first | exact HB.out | apply below_alloc | apply pw_below_drewN | apply below_drew1) | exact HB.out)))); have n1_ := Aside0.mk (below_step (by repeat (first | (with_reducible first | exact HB.out | apply below_alloc | apply pw_below_drewN | apply below_drew1) | exact HB.out)) hb); clear HB; have HO207 := n0_; have HB := n1_; clear n0_ n1_; (try clear hb); (try clear hb2); (try clear hk); (try clear hi); (try clear ho0); obtain ⟨Ao54, co54, eo54⟩ := Kd.R_slice HO207.out; subst eo54) | (go_at_call 8; (with_reducible refine (casementlaw18_awake.calls k  t208 _ A52.out).mono ?_); rintro e w55 ⟨rfl, hb⟩; have n0_ := Aside0.mk (Kd.R_below (by (with_reducible repeat (first | apply Kd.R_alloc | apply Kd.R_drewN | apply Kd.R_drew)); exact HO207.out) hb); have n1_ := Aside0.mk (below_step (by repeat (first | (with_reducible first | exact HB.out | apply below_alloc | apply pw_below_drewN | apply below_drew1) | exact HB.out)) hb); clear HO207; clear HB; have HO207 := n0_; have HB := n1_; clear n0_ n1_; (try clear hb); (try clear hb2); (try clear hk); (try clear hi)))
            repeat (go_quiet (first | (go_at_call 9; (with_reducible refine (lex_Tokens.calls k a0 t203 t204 t205 _ A5.out).mono ?_); rintro e w53 ⟨v206, rfl, ho0, hb⟩; have n0_ := Aside0.mk (Kd.R_lower ho0 (below_size (by repeat (first | (with_reducible first | exact HB.out | apply below_alloc | apply pw_below_drewN | apply below_drew1) | exact HB.out)))); have n1_ := Aside0.mk (below_step (by repeat (first | (with_reducible first | exact HB.out | apply below_alloc | apply pw_below_drewN | apply below_drew1) | exact HB.out)) hb); clear HB; have HO207 := n0_; have HB := n1_; clear n0_ n1_; (try clear hb); (try clear hb2); (try clear hk); (try clear hi); (try clear ho0); obtain ⟨Ao54, co54, eo54⟩ := Kd.R_slice HO207.out; subst eo54) | (go_at_call 8; (with_reducible refine (casementlaw18_awake.calls k  t208 _ A52.out).mono ?_); rintro e w55 ⟨rfl, hb⟩; have n0_ := Aside0.mk (Kd.R_below (by (with_reducible repeat (first | apply Kd.R_alloc | apply Kd.R_drewN | apply Kd.R_drew)); exact HO207.out) hb); have n1_ := Aside0.mk (below_step (by repeat (first | (with_reducible first | exact HB.out | apply below_alloc | apply pw_below_drewN | apply below_drew1) | exact HB.out)) hb); clear HO207; clear HB; have HO207 := n0_; have HB := n1_; clear n0_ n1_; (try clear hb); (try clear hb2); (try clear hk); (try clear hi))); try go_wp2_with (first | (go_at_call 9; (with_reducible refine (lex_Tokens.calls k a0 t203 t204 t205 _ A5.out).mono ?_); rintro e w53 ⟨v206, rfl, ho0, hb⟩; have n0_ := Aside0.mk (Kd.R_lower ho0 (below_size (by repeat (first | (with_reducible first | exact HB.out | apply below_alloc | apply pw_below_drewN | apply below_drew1) | exact HB.out)))); have n1_ := Aside0.mk (below_step (by repeat (first | (with_reducible first | exact HB.out | apply below_alloc | apply pw_below_drewN | apply below_drew1) | exact HB.out)) hb); clear HB; have HO207 := n0_; have HB := n1_; clear n0_ n1_; (try clear hb); (try clear hb2); (try clear hk); (try clear hi); (try clear ho0); obtain ⟨Ao54, co54, eo54⟩ := Kd.R_slice HO207.out; subst eo54) | (go_at_call 8; (with_reducible refine (casementlaw18_awake.calls k  t208 _ A52.out).mono ?_); rintro e w55 ⟨rfl, hb⟩; have n0_ := Aside0.mk (Kd.R_below (by (with_reducible repeat (first | apply Kd.R_alloc | apply Kd.R_drewN | apply Kd.R_drew)); exact HO207.out) hb); have n1_ := Aside0.mk (below_step (by repeat (first | (with_reducible first | exact HB.out | apply below_alloc | apply pw_below_drewN | apply below_drew1) | exact HB.out)) hb); clear HO207; clear HB; have HO207 := n0_; have HB := n1_; clear n0_ n1_; (try clear hb); (try clear hb2); (try clear hk); (try clear hi))))
            go_ret
            exact ⟨by first | rfl | (simp [errW_none, errW_some] <;> rfl) | (simp [*, errW_none, errW_some] <;> rfl), by repeat (first | (with_reducible first | exact HB.out | apply below_alloc | apply pw_below_drewN | apply below_drew1) | exact HB.out)⟩
          · rw [if_neg c51] at H
            have c51b0 : decide (t204 < (a0.size : Int)) = false := decide_eq_false c51
            clear c51
            obtain rfl := Option.some.inj H
            go_enter Try.func5, Try.ntmps5
            go_wp2_with (first | (go_at_call 9; (with_reducible refine (lex_Tokens.calls k a0 t203 t204 t205 _ A5.out).mono ?_); rintro e w56 ⟨v206, rfl, ho0, hb⟩; have n0_ := Aside0.mk (Kd.R_lower ho0 (below_size (by repeat (first | (with_reducible first | exact HB.out | apply below_alloc | apply pw_below_drewN | apply below_drew1) | exact HB.out)))); have n1_ := Aside0.mk (below_step (by repeat (first | (with_reducible first | exact HB.out | apply below_alloc | apply pw_below_drewN | apply below_drew1) | exact HB.out)) hb); clear HB; have HO207 := n0_; have HB := n1_; clear n0_ n1_; (try clear hb); (try clear hb2); (try clear hk); (try clear hi); (try clear ho0); obtain ⟨Ao57, co57, eo57⟩ := Kd.R_slice HO207.out; subst eo57))
            repeat (go_quiet (first | (go_at_call 9; (with_reducible refine (lex_Tokens.calls k a0 t203 t204 t205 _ A5.out).mono ?_); rintro e w56 ⟨v206, rfl, ho0, hb⟩; have n0_ := Aside0.mk (Kd.R_lower ho0 (below_size (by repeat (first | (with_reducible first | exact HB.out | apply below_alloc | apply pw_below_drewN | apply below_drew1) | exact HB.out)))); have n1_ := Aside0.mk (below_step (by repeat (first | (with_reducible first | exact HB.out | apply below_alloc | apply pw_below_drewN | apply below_drew1) | exact HB.out)) hb); clear HB; have HO207 := n0_; have HB := n1_; clear n0_ n1_; (try clear hb); (try clear hb2); (try clear hk); (try clear hi); (try clear ho0); obtain ⟨Ao57, co57, eo57⟩ := Kd.R_slice HO207.out; subst eo57)); try go_wp2_with (first | (go_at_call 9; (with_reducible refine (lex_Tokens.calls k a0 t203 t204 t205 _ A5.out).mono ?_); rintro e w56 ⟨v206, rfl, ho0, hb⟩; have n0_ := Aside0.mk (Kd.R_lower ho0 (below_size (by repeat (first | (with_reducible first | exact HB.out | apply below_alloc | apply pw_below_drewN | apply below_drew1) | exact HB.out)))); have n1_ := Aside0.mk (below_step (by repeat (first | (with_reducible first | exact HB.out | apply below_alloc | apply pw_below_drewN | apply below_drew1) | exact HB.out)) hb); clear HB; have HO207 := n0_; have HB := n1_; clear n0_ n1_; (try clear hb); (try clear hb2); (try clear hk); (try clear hi); (try clear ho0); obtain ⟨Ao57, co57, eo57⟩ := Kd.R_slice HO207.out; subst eo57)))
            go_ret
            exact ⟨by first | rfl | (simp [errW_none, errW_some] <;> rfl) | (simp [*, errW_none, errW_some] <;> rfl), by repeat (first | (with_reducible first | exact HB.out | apply below_alloc | apply pw_below_drewN | apply below_drew1) | exact HB.out)⟩
        · rw [if_neg c50] at H
          have c50b0 : decide (0 ≤ t204) = false := decide_eq_false c50
          clear c50
          obtain rfl := Option.some.inj H
          go_enter Try.func5, Try.ntmps5
          go_wp2_with (first | (go_at_call 9; (with_reducible refine (lex_Tokens.calls k a0 t203 t204 t205 _ A5.out).mono ?_); rintro e w58 ⟨v206, rfl, ho0, hb⟩; have n0_ := Aside0.mk (Kd.R_lower ho0 (below_size (by repeat (first | (with_reducible first | exact HB.out | apply below_alloc | apply pw_below_drewN | apply below_drew1) | exact HB.out)))); have n1_ := Aside0.mk (below_step (by repeat (first | (with_reducible first | exact HB.out | apply below_alloc | apply pw_below_drewN | apply below_drew1) | exact HB.out)) hb); clear HB; have HO207 := n0_; have HB := n1_; clear n0_ n1_; (try clear hb); (try clear hb2); (try clear hk); (try clear hi); (try clear ho0); obtain ⟨Ao59, co59, eo59⟩ := Kd.R_slice HO207.out; subst eo59))
          repeat (go_quiet (first | (go_at_call 9; (with_reducible refine (lex_Tokens.calls k a0 t203 t204 t205 _ A5.out).mono ?_); rintro e w58 ⟨v206, rfl, ho0, hb⟩; have n0_ := Aside0.mk (Kd.R_lower ho0 (below_size (by repeat (first | (with_reducible first | exact HB.out | apply below_alloc | apply pw_below_drewN | apply below_drew1) | exact HB.out)))); have n1_ := Aside0.mk (below_step (by repeat (first | (with_reducible first | exact HB.out | apply below_alloc | apply pw_below_drewN | apply below_drew1) | exact HB.out)) hb); clear HB; have HO207 := n0_; have HB := n1_; clear n0_ n1_; (try clear hb); (try clear hb2); (try clear hk); (try clear hi); (try clear ho0); obtain ⟨Ao59, co59, eo59⟩ := Kd.R_slice HO207.out; subst eo59)); try go_wp2_with (first | (go_at_call 9; (with_reducible refine (lex_Tokens.calls k a0 t203 t204 t205 _ A5.out).mono ?_); rintro e w58 ⟨v206, rfl, ho0, hb⟩; have n0_ := Aside0.mk (Kd.R_lower ho0 (below_size (by repeat (first | (with_reducible first | exact HB.out | apply below_alloc | apply pw_below_drewN | apply below_drew1) | exact HB.out)))); have n1_ := Aside0.mk (below_step (by repeat (first | (with_reducible first | exact HB.out | apply below_alloc | apply pw_below_drewN | apply below_drew1) | exact HB.out)) hb); clear HB; have HO207 := n0_; have HB := n1_; clear n0_ n1_; (try clear hb); (try clear hb2); (try clear hk); (try clear hi); (try clear ho0); obtain ⟨Ao59, co59, eo59⟩ := Kd.R_slice HO207.out; subst eo59)))
          go_ret
          exact ⟨by first | rfl | (simp [errW_none, errW_some] <;> rfl) | (simp [*, errW_none, errW_some] <;> rfl), by repeat (first | (with_reducible first | exact HB.out | apply below_alloc | apply pw_below_drewN | apply below_drew1) | exact HB.out)⟩
      · rw [if_neg c49] at H
        have c49b0 : ((t203.length : Int) == 0) = false := beq_eq_false_iff_ne.mpr c49
        have c49b1 : ((t203.length : Int) != 0) = true := bne_iff_ne.mpr c49
        have c49b2 : ¬ (t203 = []) := fun h_ => c49 (by rw [h_]; rfl)
        obtain rfl := Option.some.inj H
        go_enter Try.func5, Try.ntmps5
        go_wp2_with (first | (go_at_call 9; (with_reducible refine (lex_Tokens.calls k a0 t203 t204 t205 _ A5.out).mono ?_); rintro e w60 ⟨v206, rfl, ho0, hb⟩; have n0_ := Aside0.mk (Kd.R_lower ho0 (below_size (by repeat (first | (with_reducible first | exact HB.out | apply below_alloc | apply pw_below_drewN | apply below_drew1) | exact HB.out)))); have n1_ := Aside0.mk (below_step (by repeat (first | (with_reducible first | exact HB.out | apply below_alloc | apply pw_below_drewN | apply below_drew1) | exact HB.out)) hb); clear HB; have HO207 := n0_; have HB := n1_; clear n0_ n1_; (try clear hb); (try clear hb2); (try clear hk); (try clear hi); (try clear ho0); obtain ⟨Ao61, co61, eo61⟩ := Kd.R_slice HO207.out; subst eo61))
        repeat (go_quiet (first | (go_at_call 9; (with_reducible refine (lex_Tokens.calls k a0 t203 t204 t205 _ A5.out).mono ?_); rintro e w60 ⟨v206, rfl, ho0, hb⟩; have n0_ := Aside0.mk (Kd.R_lower ho0 (below_size (by repeat (first | (with_reducible first | exact HB.out | apply below_alloc | apply pw_below_drewN | apply below_drew1) | exact HB.out)))); have n1_ := Aside0.mk (below_step (by repeat (first | (with_reducible first | exact HB.out | apply below_alloc | apply pw_below_drewN | apply below_drew1) | exact HB.out)) hb); clear HB; have HO207 := n0_; have HB := n1_; clear n0_ n1_; (try clear hb); (try clear hb2); (try clear hk); (try clear hi); (try clear ho0); obtain ⟨Ao61, co61, eo61⟩ := Kd.R_slice HO207.out; subst eo61)); try go_wp2_with (first | (go_at_call 9; (with_reducible refine (lex_Tokens.calls k a0 t203 t204 t205 _ A5.out).mono ?_); rintro e w60 ⟨v206, rfl, ho0, hb⟩; have n0_ := Aside0.mk (Kd.R_lower ho0 (below_size (by repeat (first | (with_reducible first | exact HB.out | apply below_alloc | apply pw_below_drewN | apply below_drew1) | exact HB.out)))); have n1_ := Aside0.mk (below_step (by repeat (first | (with_reducible first | exact HB.out | apply below_alloc | apply pw_below_drewN | apply below_drew1) | exact HB.out)) hb); clear HB; have HO207 := n0_; have HB := n1_; clear n0_ n1_; (try clear hb); (try clear hb2); (try clear hk); (try clear hi); (try clear ho0); obtain ⟨Ao61, co61, eo61⟩ := Kd.R_slice HO207.out; subst eo61)))
        go_ret
        exact ⟨by first | rfl | (simp [errW_none, errW_some] <;> rfl) | (simp [*, errW_none, errW_some] <;> rfl), by repeat (first | (with_reducible first | exact HB.out | apply below_alloc | apply pw_below_drewN | apply below_drew1) | exact HB.out)⟩

/-- THE ONE PURE STATEMENT of casementlaw18_LexPlaces: yours. -/
def casementlaw18_LexPlaces.Pure : Prop := ∀ (a0 : ByteArray), a0.size ≤ 140737488351232 → ∃ k, casementlaw18_LexPlaces.f k a0 = some true
theorem casementlaw18_LexPlaces.walk (P : casementlaw18_LexPlaces.Pure) (a0 : ByteArray) (w : World) (w0 : a0.size ≤ 140737488351232) :
    Calls Try.prog 5 #[.string a0] w fun e w' => e = .returned (.bool true) ∧ Below w.heap.size w w' := by
  obtain ⟨k, h⟩ := P a0 w0
  refine (casementlaw18_LexPlaces.calls k a0 true w h).mono ?_
  rintro e w' ⟨rfl, hd⟩
  exact ⟨rfl, hd⟩

/-! ### lex_Plain: function 12 -/
def lex_Plain.l0 : Nat → ByteArray → Int → Int → Option (Bool)
  | 0, _, _, _ => none
  | k + 1, x0, x5, x6 => if x6 < x5 then (if 0 ≤ x6 then (if x6 < (x0.size : Int) then ((lex_plain.f (bt x0 x6)).bind fun t212 => (if t212 = true then (lex_Plain.l0 k x0 x5 (wrap64 (x6 + 1))) else (some false))) else (none)) else (none)) else (some (x0.toList != ([] : List UInt8)))
def lex_Plain.f (k : Nat) (a0 : ByteArray) : Option (Bool) := lex_Plain.l0 k a0 (a0.size : Int) 0
theorem lex_Plain.mono_l : ∀ k, (∀ y0 y1 y2, LeO (lex_Plain.l0 k y0 y1 y2) (lex_Plain.l0 (k + 1) y0 y1 y2))
  | 0 => fun _ _ _ r h => by simp [lex_Plain.l0] at h
  | k + 1 => by
    have ih0 := lex_Plain.mono_l k
    · intro y0 y1 y2
      unfold lex_Plain.l0
      repeat' first
      | (with_reducible exact ih0 _ _ _)
      | (with_reducible exact LeO.refl _)
      | (with_reducible exact LeO.none _)
      | (with_reducible refine LeO.ite ?_ ?_)
      | (with_reducible refine LeO.bind ?_ (fun _ => ?_))
      | exact ih0 _ _ _
      | exact LeO.none _
      | refine LeO.ite ?_ ?_
      | refine LeO.bind ?_ (fun _ => ?_)
theorem lex_Plain.mono : ∀ a0 k, LeO (lex_Plain.f k a0) (lex_Plain.f (k + 1) a0) := by
  intro a0 k
  have ih0 := lex_Plain.mono_l k
  unfold lex_Plain.f
  repeat' first
      | (with_reducible exact ih0 _ _ _)
      | (with_reducible exact LeO.refl _)
      | (with_reducible exact LeO.none _)
      | (with_reducible refine LeO.ite ?_ ?_)
      | (with_reducible refine LeO.bind ?_ (fun _ => ?_))
      | exact ih0 _ _ _
      | exact LeO.none _
      | refine LeO.ite ?_ ?_
      | refine LeO.bind ?_ (fun _ => ?_)
set_option maxHeartbeats 8000000 in
set_option maxRecDepth 100000 in
theorem lex_Plain.calls (k : Nat) (a0 : ByteArray) (r : Bool) (w : World) (h : lex_Plain.f k a0 = some r) :
    Calls Try.prog 12 #[.string a0] w fun e w' => e = .returned (.bool r) ∧ Drawn0 w w' := by
  have H : (lex_Plain.l0 k a0 (a0.size : Int) 0) = some r := h
  clear h
  have H' := Aside0.mk H
  clear H
  go_enter Try.func12, Try.ntmps12
  go_wp2
  go_loopg [6] k (fun kq v6 w' => ∃ (x6_1 : Int), v6 = .int .i64 x6_1 ∧ Aside0 (lex_Plain.l0 kq a0 (a0.size : Int) x6_1 = some r) ∧ Aside0 (kq ≤ k) ∧ Drawn0 w w')
  case atStart => exact ⟨(0), (by first | rfl | (simp; done) | (simp [*]; done) | (congr 2; generalize ByteArray.toList _ = l_; cases l_ <;> rfl)), H', ⟨Nat.le_refl _⟩, by repeat (first | exact Drawn0.refl _ | apply Drawn0.step)⟩
  case round =>
    clear H'
    try clear c1
    obtain ⟨x6_1, rfl, HA, HK1, ⟨m1, rfl⟩⟩ := hrel
    cases gk with
    | zero => exact absurd HA.out (by simp [lex_Plain.l0])
    | succ k1 =>
      have H := HA.out
      clear HA
      simp only [lex_Plain.l0] at H
      by_cases c2 : x6_1 < (a0.size : Int)
      · rw [if_pos c2] at H
        have c2b0 : decide (x6_1 < (a0.size : Int)) = true := decide_eq_true c2
        clear c2
        by_cases c3 : 0 ≤ x6_1
        · rw [if_pos c3] at H
          have c3b0 : decide (0 ≤ x6_1) = true := decide_eq_true c3
          clear c3
          by_cases c4 : x6_1 < (a0.size : Int)
          · rw [if_pos c4] at H
            have c4b0 : decide (x6_1 < (a0.size : Int)) = true := decide_eq_true c4
            clear c4
            replace H := Option.bind_eq_some_iff.mp H
            obtain ⟨t212, A60, H⟩ := H
            replace H : (if t212 = true then (lex_Plain.l0 k1 a0 (a0.size : Int) (wrap64 (x6_1 + 1))) else (some false)) = some r := H
            have A6 := Aside0.mk A60
            clear A60
            by_cases c7 : t212 = true
            · subst c7
              have H1 : (lex_Plain.l0 k1 a0 (a0.size : Int) (wrap64 (x6_1 + 1))) = some r := by rw [if_pos rfl] at H; exact H
              clear H
              have H := H1
              clear H1
              have H' := Aside0.mk H
              clear H
              have p5 : 0 ≤ (x6_1 : Int) := of_decide_eq_true (by first | (with_reducible assumption) | assumption)
              have q5 : x6_1 < (a0.size : Int) := of_decide_eq_true (by first | (with_reducible assumption) | assumption)
              have hx5 := bt_at a0 x6_1
              replace p5 := eq_true p5
              replace q5 := eq_true q5
              go_wp2_with (first | ((with_reducible refine gate_callee (f := 20) rfl ?_); refine goesL_ (some 12) rfl rfl Try.func20 (by kernel_rfl) rfl #[.int .u8 (bt a0 x6_1)] rfl (by (try simp only [List.map_toArray, List.map_cons, List.map_nil]); first | done | rfl | (simp only [List.length_drop, List.length_take]; rfl)) ?_; (with_reducible refine (lex_plain.calls (bt a0 x6_1) true _ A6.out).mono ?_); rintro e w' ⟨rfl, ⟨nd, rfl⟩⟩; refine ⟨_, rfl, ?_⟩))
              go_roundg k1
              case measure => have := HK1.out; omega
              case rel => exact ⟨(wrap64 (x6_1 + 1)), (by first | rfl | (simp; done) | (simp [*]; done) | (congr 2; generalize ByteArray.toList _ = l_; cases l_ <;> rfl)), H', ⟨by have := HK1.out; omega⟩, by repeat (first | exact Drawn0.refl _ | apply Drawn0.step)⟩
            · replace c7 := Bool.eq_false_iff.mpr c7
              subst c7
              have H1 : (some false) = some r := by rw [if_neg (show ¬ (false = true) by decide)] at H; exact H
              clear H
              have H := H1
              clear H1
              obtain rfl := Option.some.inj H
              have p5 : 0 ≤ (x6_1 : Int) := of_decide_eq_true (by first | (with_reducible assumption) | assumption)
              have q5 : x6_1 < (a0.size : Int) := of_decide_eq_true (by first | (with_reducible assumption) | assumption)
              have hx5 := bt_at a0 x6_1
              replace p5 := eq_true p5
              replace q5 := eq_true q5
              go_wp2_with (first | ((with_reducible refine gate_callee (f := 20) rfl ?_); refine goesL_ (some 12) rfl rfl Try.func20 (by kernel_rfl) rfl #[.int .u8 (bt a0 x6_1)] rfl (by (try simp only [List.map_toArray, List.map_cons, List.map_nil]); first | done | rfl | (simp only [List.length_drop, List.length_take]; rfl)) ?_; (with_reducible refine (lex_plain.calls (bt a0 x6_1) false _ A6.out).mono ?_); rintro e w' ⟨rfl, ⟨nd, rfl⟩⟩; refine ⟨_, rfl, ?_⟩))
              go_ret
              exact ⟨by first | rfl | (simp; done) | (simp [*]; done) | (congr 2; generalize ByteArray.toList _ = l_; cases l_ <;> rfl), by repeat (first | exact Drawn0.refl _ | apply Drawn0.step)⟩
          · rw [if_neg c4] at H
            exact absurd H (by simp)
        · rw [if_neg c3] at H
          exact absurd H (by simp)
      · rw [if_neg c2] at H
        have c2b0 : decide (x6_1 < (a0.size : Int)) = false := decide_eq_false c2
        clear c2
        obtain rfl := Option.some.inj H
        go_wp2
        go_ret
        exact ⟨by first | rfl | (simp; done) | (simp [*]; done) | (congr 2; generalize ByteArray.toList _ = l_; cases l_ <;> rfl), by repeat (first | exact Drawn0.refl _ | apply Drawn0.step)⟩

/-! ### casementref18_Plain: function 13 -/
def casementref18_Plain.l0 : Nat → ByteArray → Int → Option (Bool)
  | 0, _, _ => none
  | k + 1, x0, x3 => if x3 < (x0.size : Int) then (if 0 ≤ x3 then ((casementref18_plain.f (bt x0 x3)).bind fun t213 => (if t213 = true then (casementref18_Plain.l0 k x0 (wrap64 (x3 + 1))) else (some false))) else (none)) else (some (decide ((x0.size : Int) > 0)))
def casementref18_Plain.f (k : Nat) (a0 : ByteArray) : Option (Bool) := casementref18_Plain.l0 k a0 0
theorem casementref18_Plain.mono_l : ∀ k, (∀ y0 y1, LeO (casementref18_Plain.l0 k y0 y1) (casementref18_Plain.l0 (k + 1) y0 y1))
  | 0 => fun _ _ r h => by simp [casementref18_Plain.l0] at h
  | k + 1 => by
    have ih0 := casementref18_Plain.mono_l k
    · intro y0 y1
      unfold casementref18_Plain.l0
      repeat' first
      | (with_reducible exact ih0 _ _)
      | (with_reducible exact LeO.refl _)
      | (with_reducible exact LeO.none _)
      | (with_reducible refine LeO.ite ?_ ?_)
      | (with_reducible refine LeO.bind ?_ (fun _ => ?_))
      | exact ih0 _ _
      | exact LeO.none _
      | refine LeO.ite ?_ ?_
      | refine LeO.bind ?_ (fun _ => ?_)
theorem casementref18_Plain.mono : ∀ a0 k, LeO (casementref18_Plain.f k a0) (casementref18_Plain.f (k + 1) a0) := by
  intro a0 k
  have ih0 := casementref18_Plain.mono_l k
  unfold casementref18_Plain.f
  repeat' first
      | (with_reducible exact ih0 _ _)
      | (with_reducible exact LeO.refl _)
      | (with_reducible exact LeO.none _)
      | (with_reducible refine LeO.ite ?_ ?_)
      | (with_reducible refine LeO.bind ?_ (fun _ => ?_))
      | exact ih0 _ _
      | exact LeO.none _
      | refine LeO.ite ?_ ?_
      | refine LeO.bind ?_ (fun _ => ?_)
set_option maxHeartbeats 8000000 in
set_option maxRecDepth 100000 in
theorem casementref18_Plain.calls (k : Nat) (a0 : ByteArray) (r : Bool) (w : World) (h : casementref18_Plain.f k a0 = some r) :
    Calls Try.prog 13 #[.string a0] w fun e w' => e = .returned (.bool r) ∧ Drawn0 w w' := by
  have H : (casementref18_Plain.l0 k a0 0) = some r := h
  clear h
  have H' := Aside0.mk H
  clear H
  go_enter Try.func13, Try.ntmps13
  go_wp2
  go_loopg [3] k (fun kq v3 w' => ∃ (x3_1 : Int), v3 = .int .i64 x3_1 ∧ Aside0 (casementref18_Plain.l0 kq a0 x3_1 = some r) ∧ Aside0 (kq ≤ k) ∧ Drawn0 w w')
  case atStart => exact ⟨(0), (by first | rfl | (simp; done) | (simp [*]; done) | (congr 2; generalize ByteArray.toList _ = l_; cases l_ <;> rfl)), H', ⟨Nat.le_refl _⟩, by repeat (first | exact Drawn0.refl _ | apply Drawn0.step)⟩
  case round =>
    clear H'
    try clear c1
    obtain ⟨x3_1, rfl, HA, HK1, ⟨m1, rfl⟩⟩ := hrel
    cases gk with
    | zero => exact absurd HA.out (by simp [casementref18_Plain.l0])
    | succ k1 =>
      have H := HA.out
      clear HA
      simp only [casementref18_Plain.l0] at H
      by_cases c2 : x3_1 < (a0.size : Int)
      · rw [if_pos c2] at H
        have c2b0 : decide (x3_1 < (a0.size : Int)) = true := decide_eq_true c2
        clear c2
        by_cases c3 : 0 ≤ x3_1
        · rw [if_pos c3] at H
          have c3b0 : decide (0 ≤ x3_1) = true := decide_eq_true c3
          clear c3
          replace H := Option.bind_eq_some_iff.mp H
          obtain ⟨t213, A50, H⟩ := H
          replace H : (if t213 = true then (casementref18_Plain.l0 k1 a0 (wrap64 (x3_1 + 1))) else (some false)) = some r := H
          have A5 := Aside0.mk A50
          clear A50
          by_cases c6 : t213 = true
          · subst c6
            have H1 : (casementref18_Plain.l0 k1 a0 (wrap64 (x3_1 + 1))) = some r := by rw [if_pos rfl] at H; exact H
            clear H
            have H := H1
            clear H1
            have H' := Aside0.mk H
            clear H
            have p4 : 0 ≤ (x3_1 : Int) := of_decide_eq_true (by first | (with_reducible assumption) | assumption)
            have q4 : x3_1 < (a0.size : Int) := of_decide_eq_true (by first | (with_reducible assumption) | assumption)
            have hx4 := bt_at a0 x3_1
            replace p4 := eq_true p4
            replace q4 := eq_true q4
            go_wp2_with (first | ((with_reducible refine gate_callee (f := 23) rfl ?_); refine goesL_ (some 13) rfl rfl Try.func23 (by kernel_rfl) rfl #[.int .u8 (bt a0 x3_1)] rfl (by (try simp only [List.map_toArray, List.map_cons, List.map_nil]); first | done | rfl | (simp only [List.length_drop, List.length_take]; rfl)) ?_; (with_reducible refine (casementref18_plain.calls (bt a0 x3_1) true _ A5.out).mono ?_); rintro e w' ⟨rfl, ⟨nd, rfl⟩⟩; refine ⟨_, rfl, ?_⟩))
            go_roundg k1
            case measure => have := HK1.out; omega
            case rel => exact ⟨(wrap64 (x3_1 + 1)), (by first | rfl | (simp; done) | (simp [*]; done) | (congr 2; generalize ByteArray.toList _ = l_; cases l_ <;> rfl)), H', ⟨by have := HK1.out; omega⟩, by repeat (first | exact Drawn0.refl _ | apply Drawn0.step)⟩
          · replace c6 := Bool.eq_false_iff.mpr c6
            subst c6
            have H1 : (some false) = some r := by rw [if_neg (show ¬ (false = true) by decide)] at H; exact H
            clear H
            have H := H1
            clear H1
            obtain rfl := Option.some.inj H
            have p4 : 0 ≤ (x3_1 : Int) := of_decide_eq_true (by first | (with_reducible assumption) | assumption)
            have q4 : x3_1 < (a0.size : Int) := of_decide_eq_true (by first | (with_reducible assumption) | assumption)
            have hx4 := bt_at a0 x3_1
            replace p4 := eq_true p4
            replace q4 := eq_true q4
            go_wp2_with (first | ((with_reducible refine gate_callee (f := 23) rfl ?_); refine goesL_ (some 13) rfl rfl Try.func23 (by kernel_rfl) rfl #[.int .u8 (bt a0 x3_1)] rfl (by (try simp only [List.map_toArray, List.map_cons, List.map_nil]); first | done | rfl | (simp only [List.length_drop, List.length_take]; rfl)) ?_; (with_reducible refine (casementref18_plain.calls (bt a0 x3_1) false _ A5.out).mono ?_); rintro e w' ⟨rfl, ⟨nd, rfl⟩⟩; refine ⟨_, rfl, ?_⟩))
            go_ret
            exact ⟨by first | rfl | (simp; done) | (simp [*]; done) | (congr 2; generalize ByteArray.toList _ = l_; cases l_ <;> rfl), by repeat (first | exact Drawn0.refl _ | apply Drawn0.step)⟩
        · rw [if_neg c3] at H
          exact absurd H (by simp)
      · rw [if_neg c2] at H
        have c2b0 : decide (x3_1 < (a0.size : Int)) = false := decide_eq_false c2
        clear c2
        obtain rfl := Option.some.inj H
        go_wp2
        go_ret
        exact ⟨by first | rfl | (simp; done) | (simp [*]; done) | (congr 2; generalize ByteArray.toList _ = l_; cases l_ <;> rfl), by repeat (first | exact Drawn0.refl _ | apply Drawn0.step)⟩

/-! ### lex_Quote: function 14 -/


end Go.Proofs.Ythlncjiapjahaaa.P
