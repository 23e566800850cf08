/-
  What the small functions that order.Order calls compute: cmp.Compare, cmp.Or, the comparison of two places. Contracts of their calls over this seat's translation. Conditions: what the captured variables hold lies in an elder world.
-/
import Derived.Test.YtplchdlcolepmaaExtBands
import Derived.Sort.Grow
import Derived.StillTailTactics
namespace Go.Proofs.Ytplchdlcolepmaa.P
open Go.RowKit Go.Maps Go.Sort Go.Proofs.Ytplchdlcolepmaa.M Go.Proofs.YtplchdlcolepmaaW.PrintWords Go.Proofs.YtplchdlcolepmaaW.PrintLast
set_option linter.unusedVariables false
set_option linter.unusedSimpArgs false

def cmpI (a b : Int) : Int := if a < b then -1 else if b < a then 1 else 0
theorem isNaN_same (x : Int) (w : World) : Calls Try.prog 38 #[.int .i64 x] w fun e w' => e = .returned (.bool false) ∧ w' = w := by
  have h : (x != x) = false := by simp
  go_enter Try.func38, Try.ntmps38
  go_wp2
  go_ret
  exact ⟨rfl, rfl⟩
theorem cmp_same (a b : Int) (w : World) : Calls Try.prog 29 #[.int .i64 a, .int .i64 b] w fun e w' => e = .returned (.int .i64 (cmpI a b)) ∧ w' = w := by
  unfold cmpI
  rcases Int.lt_trichotomy a b with h | h | h
  · rw [if_pos h]
    go_enter Try.func29, Try.ntmps29
    go_wp2_with (go_at_call 38; refine (isNaN_same _ _).mono ?_; rintro e w' ⟨rfl, rfl⟩)
    go_ret
    exact ⟨rfl, rfl⟩
  · subst h
    rw [if_neg (by omega), if_neg (by omega)]
    go_enter Try.func29, Try.ntmps29
    go_wp2_with (go_at_call 38; refine (isNaN_same _ _).mono ?_; rintro e w' ⟨rfl, rfl⟩)
    go_ret
    exact ⟨rfl, rfl⟩
  · rw [if_neg (by omega), if_pos h]
    have h' : ¬ a < b := by omega
    go_enter Try.func29, Try.ntmps29
    go_wp2_with (go_at_call 38; refine (isNaN_same _ _).mono ?_; rintro e w' ⟨rfl, rfl⟩)
    go_ret
    exact ⟨rfl, rfl⟩

def orL : List Int → Int
  | [] => 0
  | x :: l => if x = 0 then orL l else x
theorem or_same (A : Option Addr) (c : Nat) (xs : List Int) (w : World) (hr : Kd.C (Kd.int .i64) w A xs.length xs) (hlen : xs.length ≤ 128) :
    Calls Try.prog 28 #[.slice A xs.length c] w fun e w' => e = .returned (.int .i64 (orL xs)) ∧ w' = w := by
  generalize hR : orL xs = R
  have HR := Lib.hid hR
  have HC := Lib.hid hr
  clear hR hr
  go_enter Try.func28, Try.ntmps28
  go_wp2
  go_loop [8] (fun i => ∃ k : Nat, i = .int .i64 k ∧ k ≤ xs.length ∧ Hid (orL (xs.drop k) = R)) (fun i => xs.length + 1 - (intOf i).toNat)
  case atStart => exact ⟨0, rfl, by omega, HR⟩
  case round =>
    clear HR
    obtain ⟨k, rfl, hk, HS⟩ := hrel
    by_cases hlt : k < xs.length
    · have hrd := ReadsOf.at_ (Kd.reads_of_C (d := (0 : Int)) HC.out) (k : Int) (by omega) (by omega)
      obtain ⟨ad, hA, hcell0⟩ := hrd
      subst hA
      rw [Int.toNat_natCast] at hcell0
      have hs := HS.out
      rw [List.drop_eq_getElem_cons hlt, orL] at hs
      have hx : rdOf (0 : Int) xs (k : Int) = xs[k] := by
        unfold rdOf; rw [Int.toNat_natCast, List.getD_eq_getElem?_getD, List.getElem?_eq_getElem hlt]; rfl
      rw [hx] at hcell0
      clear HS hx
      generalize xs[k] = x at hcell0 hs
      have hcell : w.cell? (ad.add k) = some (.int .i64 x) := hcell0
      clear hcell0
      by_cases hz : x = 0
      · rw [if_pos hz] at hs
        subst hz
        have HS := Lib.hid hs
        clear hs
        go_wp2
        go_round
        case rel => exact ⟨k + 1, by go_num, by omega, HS⟩
        case measure => simp [intOf]; omega
      · rw [if_neg hz] at hs
        subst hs
        have hzb : (x != 0) = true := by rw [bne_iff_ne]; exact hz
        clear hz
        go_wp2
        go_ret
        exact ⟨rfl, rfl⟩
    · have hs := HS.out
      rw [List.drop_of_length_le (by omega)] at hs
      have hs' : (0 : Int) = R := hs
      subst hs'
      obtain rfl : xs.length = k := by omega
      clear HS hs
      go_wp2
      go_ret
      exact ⟨rfl, rfl⟩

/-! ### the comparison of two places -/
def cfO (l : List It) (bs : List Int) (i k : Int) : Int := orL [cmpI (rd bs i) (rd bs k), cmpI (rdI l i).f4 (rdI l k).f4, cmpI (rdI l i).f5 (rdI l k).f5, cmpI (rdI l i).f0 (rdI l k).f0]
/-- what the closures have caught, in an elder world -/
structure Caught (wb : World) (p1 p6 : Nat) (A0 A6 : Option Addr) (c0 c6 : Nat) (l : List It) (bs : List Int) : Prop where
  b1 : wb.cell? ⟨p1, 0, none⟩ = some (.slice A0 l.length c0)
  b6 : wb.cell? ⟨p6, 0, none⟩ = some (.slice A6 l.length c6)
  l0 : Kd.C k38 wb A0 l.length l
  bs0 : Kd.C (Kd.int .i64) wb A6 bs.length bs
  len : bs.length = l.length
theorem C_lit4 (w : World) (T : Nat) (a b c d : Int) : Kd.C (Kd.int .i64) (w.alloc (.cells #[.int .i64 a, .int .i64 b, .int .i64 c, .int .i64 d] T)) (some ⟨w.heap.size, 0, none⟩) [a, b, c, d].length [a, b, c, d] := by
  refine ⟨rfl, by simp, fun _ => ⟨_, rfl, fun j p h => ?_⟩⟩
  have hh : (w.alloc (.cells #[.int .i64 a, .int .i64 b, .int .i64 c, .int .i64 d] T)).heap[w.heap.size]? = some (.cells #[.int .i64 a, .int .i64 b, .int .i64 c, .int .i64 d] T (0, 0)) := (MapKept.heap_alloc w _).1
  refine ⟨[.int .i64 p], rfl, rfl, fun i u hu => ?_⟩
  obtain rfl : i = 0 := by
    rcases i with _ | i
    · rfl
    · simp at hu
  have hu' : Value.int .i64 p = u := by simpa using hu
  subst hu'
  show (World.alloc _ _).cell? ((⟨w.heap.size, 0, none⟩ : Addr).add (j * 1 + 0)) = _
  rw [add_plain, cell_of hh]
  rcases j with _ | _ | _ | _ | j <;> simp at h ⊢ <;> exact h
theorem or4_same (w : World) (a b c d : Int) : Calls Try.prog 28 #[.slice (some ⟨w.heap.size, 0, none⟩) 4 4] (w.alloc (.cells #[.int .i64 a, .int .i64 b, .int .i64 c, .int .i64 d] 3)).drew fun e w' => e = .returned (.int .i64 (orL [a, b, c, d])) ∧ w' = (w.alloc (.cells #[.int .i64 a, .int .i64 b, .int .i64 c, .int .i64 d] 3)).drew :=
  or_same _ 4 [a, b, c, d] _ (Kd.C_drew (C_lit4 w 3 a b c d)) (by simp)
theorem alloc_drew_grow (w : World) (o : Obj) : (w.alloc o).drew = grow (w.drewN 1) #[o] := by rw [alloc_eq_grow]; rfl
set_option maxHeartbeats 4000000 in
set_option maxRecDepth 100000 in
theorem closure_any (wb : World) (p1 p6 : Nat) (A0 A6 : Option Addr) (c0 c6 : Nat) (l0 : List It) (bs : List Int) (h : Caught wb p1 p6 A0 A6 c0 c6 l0 bs) (i k : Int) (hi0 : 0 ≤ i) (hi1 : i < l0.length) (hk0 : 0 ≤ k) (hk1 : k < l0.length) (w : World) (hb : Below wb.heap.size wb w) :
    Calls Try.prog 27 #[.int .i64 i, .int .i64 k, .pointer (some ⟨p6, 0, none⟩), .pointer (some ⟨p1, 0, none⟩)] w fun e w' => e = .returned (.int .i64 (cfO l0 bs i k)) ∧ ∃ q os', w' = grow (w.drewN q) os' := by
  generalize hR : cfO l0 bs i k = R
  have HR := Lib.hid hR
  have hb1 := (hb.cell (World.block_lt_of_cell? _ _ h.b1)).trans h.b1
  have hb6 := (hb.cell (World.block_lt_of_cell? _ _ h.b6)).trans h.b6
  obtain ⟨ad6, hA6, hci⟩ := ReadsOf.at_ (Kd.reads_of_C (d := (0 : Int)) (Kd.C_below h.bs0 hb)) i hi0 (by have := h.len; omega)
  obtain ⟨ad6', hA6', hck⟩ := ReadsOf.at_ (Kd.reads_of_C (d := (0 : Int)) (Kd.C_below h.bs0 hb)) k hk0 (by have := h.len; omega)
  subst hA6
  injection hA6' with hA6'
  subst hA6'
  obtain ⟨ad, hA0, g0, g1, g2, g3, g4, g5⟩ := at_T38 (Kd.C_below h.l0 hb) i hi0 hi1
  subst hA0
  obtain ⟨ad', hA2, q0, q1, q2, q3, q4, q5⟩ := at_T38 (Kd.C_below h.l0 hb) k hk0 hk1
  injection hA2 with hA2
  subst hA2
  clear h hb hR
  have hci' : w.cell? (ad6.add i.toNat) = some (.int .i64 (rd bs i)) := hci
  have hck' : w.cell? (ad6.add k.toNat) = some (.int .i64 (rd bs k)) := hck
  have hr := HR.out
  unfold cfO at hr
  have g0' : w.cell? (ad.add (i.toNat * 6)) = some (.int .i64 (rdI l0 i).f0) := g0
  have g4' : w.cell? ⟨(ad.add (i.toNat * 6)).block, (ad.add (i.toNat * 6)).off + 4, none⟩ = some (.int .i64 (rdI l0 i).f4) := g4
  have g5' : w.cell? ⟨(ad.add (i.toNat * 6)).block, (ad.add (i.toNat * 6)).off + 5, none⟩ = some (.int .i64 (rdI l0 i).f5) := g5
  have q0' : w.cell? (ad.add (k.toNat * 6)) = some (.int .i64 (rdI l0 k).f0) := q0
  have q4' : w.cell? ⟨(ad.add (k.toNat * 6)).block, (ad.add (k.toNat * 6)).off + 4, none⟩ = some (.int .i64 (rdI l0 k).f4) := q4
  have q5' : w.cell? ⟨(ad.add (k.toNat * 6)).block, (ad.add (k.toNat * 6)).off + 5, none⟩ = some (.int .i64 (rdI l0 k).f5) := q5
  clear HR hci hck g0 g1 g2 g3 g4 g5 q0 q1 q2 q3 q4 q5
  generalize rd bs i = bi at hci' hr
  generalize rd bs k = bk at hck' hr
  generalize (rdI l0 i).f0 = i0 at g0' hr
  generalize (rdI l0 i).f4 = i4 at g4' hr
  generalize (rdI l0 i).f5 = i5 at g5' hr
  generalize (rdI l0 k).f0 = k0 at q0' hr
  generalize (rdI l0 k).f4 = k4 at q4' hr
  generalize (rdI l0 k).f5 = k5 at q5' hr
  have HR := Lib.hid hr
  clear hr
  go_enter Try.func27, Try.ntmps27
  go_wp2
  refine wp_region_still_tail 42 (by kernel_rfl) (by kernel_rfl) ?_
  simp only [List.take_succ_cons, List.take_zero, List.drop_succ_cons, List.drop_zero]
  repeat (first
    | (refine wpStill_step (fun K hK => ?_); go_simp; refine hK _ ?_; clear hK K)
    | (refine wpStill_step (fun K hK => ?_); go_simp; refine ⟨_, cmp_same _ _ _, hK _ ?_⟩; clear hK K))
  try refine wpStill_nil ?_
  go_wp2_with (go_at_call 28; refine (or4_same _ _ _ _ _).mono ?_; rintro e w' ⟨rfl, rfl⟩)
  go_ret
  exact ⟨by rw [HR.out]; rfl, _, _, alloc_drew_grow _ _⟩
end Go.Proofs.Ytplchdlcolepmaa.P
