/-
  The band that each thing is in, as the given program and the document's answer reckon it. Plain Lean.
-/
import Derived.Test.YtplchdlcolepmaaFRef
import Derived.Test.YtplchdlcolepmaaExtBands
import Derived.Test.YtplchdlcolepmaaPx4
namespace Go.Proofs.Ytplchdlcolepmaa.G
open Go.Proofs.Ytplchdlcolepmaa.P Go.Proofs.Ytplchdlcolepmaa.E Go.RowKit Go.Proofs.YtplchdlcolepmaaW.PrintWords Go.Proofs.YtplchdlcolepmaaW.PrintLast
set_option linter.unusedVariables false
set_option linter.unusedSimpArgs false

/-- the band of a thing, so many owners up -/
noncomputable def bdF (l : List It) : Nat → Nat → Int
  | 0, i => (rdI l (i : Int)).f1
  | f + 1, i => match Gr l i with | none => (rdI l (i : Int)).f1 | some j => max (rdI l (i : Int)).f1 (bdF l f j)
noncomputable def Bd (l : List It) (i : Nat) : Int := bdF l l.length i
theorem bdF_more (l : List It) : ∀ (f i : Nat), it (Gr l) f i = none → bdF l (f + 1) i = bdF l f i := by
  intro f
  induction f with
  | zero => intro i h; rw [it_zero] at h; cases h
  | succ f ih =>
    intro i h
    rw [it_succ'] at h
    rw [bdF, bdF]
    cases e : Gr l i with
    | none => rfl
    | some j =>
      rw [e, Option.bind_some] at h
      show max _ (bdF l (f + 1) j) = max _ (bdF l f j)
      rw [ih j h]
theorem Good.Bd_none {l : List It} (gd : Good l) {i : Nat} (hi : i < l.length) (h : Gr l i = none) : Bd l i = (rdI l (i : Int)).f1 := by
  unfold Bd
  cases hn : l.length with
  | zero => omega
  | succ n => rw [bdF, h]
theorem Good.Bd_some {l : List It} (gd : Good l) {i j : Nat} (hi : i < l.length) (h : Gr l i = some j) : Bd l i = max (rdI l (i : Int)).f1 (Bd l j) := by
  have h1 := bdF_more l l.length i (gd.ends hi)
  unfold Bd
  rw [← h1, bdF, h]
theorem Good.Bd_ge {l : List It} (gd : Good l) {i : Nat} (hi : i < l.length) : (rdI l (i : Int)).f1 ≤ Bd l i := by
  cases e : Gr l i with
  | none => rw [gd.Bd_none hi e]; omega
  | some j => rw [gd.Bd_some hi e]; omega
theorem Good.Bd_own {l : List It} (gd : Good l) {i j : Nat} (hi : i < l.length) (h : Gr l i = some j) : Bd l j ≤ Bd l i := by rw [gd.Bd_some hi h]; omega
theorem Good.own_at {l : List It} (gd : Good l) {i j : Nat} (hi : i < l.length) (h : Gr l i = some j) : own l (ownS l) (i : Int) = (j : Int) := by
  have h2 := (gd.ownS_some hi h).2.1
  have hj := Gr_lt i j h
  unfold own
  rw [h2, gd.plM, gd.pl_at hj]; rfl
theorem Good.bandGo {l : List It} (gd : Good l) : ∀ (f i : Nat) (most : Int), i < l.length → it (Gr l) f i = none → (rdI l (i : Int)).f1 ≤ most → bandGo l (ownS l) f (i : Int) most = some (max most (Bd l i)) := by
  intro f
  induction f with
  | zero => intro i most hi h _; rw [it_zero] at h; cases h
  | succ f ih =>
    intro i most hi h hm
    rw [it_succ'] at h
    rw [P.bandGo]
    cases e : Gr l i with
    | none =>
      rw [if_pos (ownS_none hi e), gd.Bd_none hi e]
      congr 1; omega
    | some j =>
      rw [e, Option.bind_some] at h
      have hj := Gr_lt i j e
      rw [if_neg (gd.ownS_some hi e).2.2.1, gd.own_at hi e, ih j _ hj h (by unfold mx2; split <;> omega), gd.Bd_some hi e]
      have := gd.Bd_ge hj
      congr 1
      unfold mx2
      split <;> omega
theorem Good.bandAt {l : List It} (gd : Good l) {i : Nat} (hi : i < l.length) : bandAt l (i : Int) = some (Bd l i) := by
  unfold P.bandAt
  have h1 : it (Gr l) (l.length + 1) i = none := by rw [it_succ, gd.ends hi]; rfl
  rw [gd.owners, gd.bandGo _ i _ hi h1 (by omega)]
  have := gd.Bd_ge hi
  congr 1; omega
theorem Good.bandsOK {l : List It} (gd : Good l) : bandsOK l := fun i hi => by rw [gd.bandAt hi]; rfl
noncomputable def bdS (l : List It) : List Int := (List.range l.length).map fun (i : Nat) => Bd l i
theorem bdS_len (l : List It) : (bdS l).length = l.length := by simp [bdS]
theorem rd_bdS {l : List It} {i : Nat} (hi : i < l.length) : rd (bdS l) (i : Int) = Bd l i := by
  unfold rd bdS
  rw [Int.toNat_natCast, List.getD_eq_getElem?_getD, List.getElem?_map, List.getElem?_range hi]; rfl
theorem Good.bandsV {l : List It} (gd : Good l) : bandsV l = bdS l := by
  unfold P.bandsV bdS
  apply List.map_congr_left
  intro i hi
  rw [gd.bandAt (List.mem_range.mp hi)]; rfl
open Classical in
noncomputable def bdV (l : List It) : List Int := if Good l then bdS l else []
theorem bands_f {l : List It} (hw : ∀ x ∈ l, wfIt x) : order_Bands.f l = some (bdV l) := by
  unfold order_Bands.f bdV
  rw [check_f hw, Option.bind_some]
  by_cases h : Good l
  · rw [if_pos ((chkV_zero l).2 h), if_pos h, if_pos h.bandsOK, h.bandsV]
  · rw [if_neg (fun e => h ((chkV_zero l).1 e)), if_neg h]

/-! ### the document's -/
theorem ref_bands_up (l : List It) (gd : Good l) (acc : List Int) (x5 : Int) (hacc : acc.length < 17592186044416) (R : List Int) : ∀ (f i : Nat) (most : Int), i < l.length → it (Gr l) f i = none → (rdI l (i : Int)).f1 ≤ most →
    Ev (fun k => casementref16_Bands.l0 k l (acc ++ [max most (Bd l i)]) (ownS l) (wrap64 (x5 + 1))) R → Ev (fun k => casementref16_Bands.l1 k l acc (ownS l) x5 most (i : Int)) R := by
  have hl := gd.sh
  have hl' : l.length ≤ 128 := gd.len
  intro f
  induction f with
  | zero => intro i most hi h _ _; rw [it_zero] at h; cases h
  | succ f ih =>
    intro i most hi h hm hgo
    rw [it_succ'] at h
    have hlo := ownS_len l
    refine Ev.step (fun _ => by rw [casementref16_Bands.l1]) ?_
    refine Ev.pos (by omega) (Ev.pos (by rw [hlo]; omega) ?_)
    cases e : Gr l i with
    | none =>
      rw [gd.Bd_none hi e, show max most (rdI l (i : Int)).f1 = most by omega] at hgo
      exact Ev.pos (ownS_none hi e) (Ev.pos hacc hgo)
    | some j =>
      rw [e, Option.bind_some] at h
      have hj := Gr_lt i j e
      have hp := ref_place l (rd (ownS l) (i : Int)) hl
      rw [(gd.ownS_some hi e).2.2.2] at hp
      refine Ev.neg (gd.ownS_some hi e).2.2.1 (Ev.bind hp (Ev.pos (by omega) (Ev.pos (by omega) ?_)))
      have hge := gd.Bd_ge hj
      rw [gd.Bd_some hi e] at hgo
      by_cases hc : (rdI l (j : Int)).f1 > most
      · refine Ev.pos hc (ih j _ hj h (Int.le_refl _) ?_)
        rw [show max (rdI l (j : Int)).f1 (Bd l j) = max most (max (rdI l (i : Int)).f1 (Bd l j)) by omega]
        exact hgo
      · refine Ev.neg hc (ih j _ hj h (by omega) ?_)
        rw [show max most (Bd l j) = max most (max (rdI l (i : Int)).f1 (Bd l j)) by omega]
        exact hgo
theorem ref_bands_go (l : List It) (gd : Good l) : ∀ (d j : Nat), j + d = l.length → Ev (fun k => casementref16_Bands.l0 k l ((bdS l).take j) (ownS l) (j : Int)) (bdS l) := by
  have hl' : l.length ≤ 128 := gd.len
  have hlo := ownS_len l
  intro d
  induction d with
  | zero =>
    intro j hj
    refine Ev.step (fun _ => by rw [casementref16_Bands.l0]) ?_
    refine Ev.neg (by rw [hlo]; omega) (Ev.fin ?_)
    rw [List.take_of_length_le]; rw [bdS_len]; omega
  | succ d ih =>
    intro j hj
    have hjl : j < l.length := by omega
    have hgo := ih (j + 1) (by omega)
    rw [← take_rd (by rw [bdS_len]; exact hjl), rd_bdS hjl] at hgo
    have hge := gd.Bd_ge hjl
    refine Ev.step (fun _ => by rw [casementref16_Bands.l0]) ?_
    refine Ev.pos (by rw [hlo]; omega) (Ev.pos (by omega) (Ev.pos (by omega) ?_))
    have h1 : it (Gr l) (l.length + 1) j = none := by rw [it_succ, gd.ends hjl]; rfl
    refine ref_bands_up l gd _ _ (by rw [List.length_take, bdS_len]; omega) _ _ j _ hjl h1 (Int.le_refl _) ?_
    rw [show max (rdI l (j : Int)).f1 (Bd l j) = Bd l j by omega, wadd1 (by omega)]
    exact hgo
theorem ref_bands (l : List It) : Ev (fun k => casementref16_Bands.f k l) (bdV l) := by
  unfold casementref16_Bands.f bdV
  refine Ev.bind (ref_owners l) ?_
  unfold ownV
  by_cases h : Good l
  · rw [if_pos h, if_pos h]
    exact ref_bands_go l h l.length 0 (by omega)
  · rw [if_neg h, if_neg h]
    refine Ev.step (fun _ => by rw [casementref16_Bands.l0]) ?_
    exact Ev.neg (by decide) (Ev.fin rfl)
end Go.Proofs.Ytplchdlcolepmaa.G
