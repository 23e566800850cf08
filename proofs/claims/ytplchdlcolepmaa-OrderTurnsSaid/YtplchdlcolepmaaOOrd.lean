/-
  What stands above what, as the given program reckons it: a row of things each of which is the least that is free. Plain Lean.
-/
import Derived.Test.YtplchdlcolepmaaOBand
import Derived.Test.YtplchdlcolepmaaExtOrder
namespace Go.Proofs.Ytplchdlcolepmaa.G
open Go.Proofs.Ytplchdlcolepmaa.P Go.Proofs.Ytplchdlcolepmaa.E Go.RowKit Go.Proofs.YtplchdlcolepmaaW.PrintWords Go.Proofs.YtplchdlcolepmaaW.PrintLast
set_option linter.unusedVariables false
set_option linter.unusedSimpArgs false

abbrev cl (l : List It) (i : Nat) : Int := (rdI l (i : Int)).f0
/-- one thing comes ahead of another one -/
def kLt (l : List It) (i j : Nat) : Prop := Bd l i < Bd l j ∨ Bd l i = Bd l j ∧ ((rdI l (i : Int)).f4 < (rdI l (j : Int)).f4 ∨ (rdI l (i : Int)).f4 = (rdI l (j : Int)).f4 ∧ ((rdI l (i : Int)).f5 < (rdI l (j : Int)).f5 ∨ (rdI l (i : Int)).f5 = (rdI l (j : Int)).f5 ∧ cl l i < cl l j))
theorem kLt_asymm {l : List It} {i j : Nat} (h : kLt l i j) : ¬ kLt l j i := by unfold kLt cl at *; omega
theorem Good.kLt_tot {l : List It} (gd : Good l) {i j : Nat} (hi : i < l.length) (hj : j < l.length) (h : i ≠ j) : kLt l i j ∨ kLt l j i := by
  have hne : cl l i ≠ cl l j := fun e => h (gd.inj hi hj e)
  unfold kLt cl at *; omega
/-- a thing is free behind others -/
def Fr (l : List It) (dn : List Nat) (i : Nat) : Prop := ∀ j, Gr l i = some j → j ∈ dn
def IsOrd (l : List It) : List Nat → List Nat → Prop
  | _, [] => True
  | dn, x :: b => Fr l dn x ∧ (∀ y ∈ b, Fr l dn y → kLt l x y) ∧ IsOrd l (dn ++ [x]) b
theorem ord_uniq (l : List It) : ∀ (s s' dn : List Nat), s.Perm s' → IsOrd l dn s → IsOrd l dn s' → s = s' := by
  intro s
  induction s with
  | nil => intro s' dn hp _ _; exact (List.nil_perm.mp hp).symm
  | cons x b ih =>
    intro s' dn hp h1 h2
    cases s' with
    | nil => exact absurd hp.length_eq (by simp)
    | cons y c =>
      obtain ⟨f1, m1, r1⟩ := h1
      obtain ⟨f2, m2, r2⟩ := h2
      by_cases e : x = y
      · subst e
        rw [ih c _ ((List.perm_cons x).mp hp) r1 r2]
      · have hx : x ∈ c := by
          have := hp.mem_iff.mp (List.mem_cons_self (a := x) (l := b))
          rcases List.mem_cons.mp this with h | h
          · exact absurd h e
          · exact h
        have hy : y ∈ b := by
          have := hp.mem_iff.mpr (List.mem_cons_self (a := y) (l := c))
          rcases List.mem_cons.mp this with h | h
          · exact absurd h.symm e
          · exact h
        exact absurd (m2 x hx f1) (kLt_asymm (m1 y hy f2))

/-! ### the first that is free -/
theorem firstP_at (p : Int → Bool) : ∀ (t : List Int) (i : Int), (∃ x ∈ t, p x = true) → ∃ m : Nat, ∃ h : m < t.length, p t[m] = true ∧ (∀ k, ∀ h : k < m, p (t[k]'(by omega)) = false) ∧ firstP p t i = i + m := by
  intro t
  induction t with
  | nil => rintro i ⟨x, hx, _⟩; cases hx
  | cons y t ih =>
    intro i hex
    cases hp : p y with
    | true => exact ⟨0, by simp, hp, fun k h => by omega, by rw [firstP, if_pos hp]; omega⟩
    | false =>
      have hex' : ∃ x ∈ t, p x = true := by
        obtain ⟨x, hx, hpx⟩ := hex
        rcases List.mem_cons.mp hx with rfl | hx
        · rw [hp] at hpx; cases hpx
        · exact ⟨x, hx, hpx⟩
      obtain ⟨m, h1, h2, h3, h4⟩ := ih (i + 1) hex'
      refine ⟨m + 1, by simp; omega, by simpa using h2, ?_, by rw [firstP, if_neg (by rw [hp]; decide), h4]; omega⟩
      intro k hk
      cases k with
      | zero => simpa using hp
      | succ k => simpa using h3 k (by omega)
theorem Good.free {l : List It} (gd : Good l) {dn : List Nat} (hd : ∀ j ∈ dn, j < l.length) {i : Nat} (hi : i < l.length) : freeB (ownS l) (dn.map (cl l)) (i : Int) = true ↔ Fr l dn i := by
  unfold freeB Fr
  rw [Bool.or_eq_true, decide_eq_true_eq, decide_eq_true_eq]
  cases e : Gr l i with
  | none => simp [ownS_none hi e]
  | some j =>
    obtain ⟨_, h2, h3, _⟩ := gd.ownS_some hi e
    have hj := Gr_lt i j e
    constructor
    · rintro (h | h)
      · exact absurd h h3
      · intro j' hj'
        obtain rfl := Option.some.inj hj'
        rw [h2] at h
        obtain ⟨k, hk, hke⟩ := List.mem_map.mp h
        obtain rfl := gd.inj (hd k hk) hj hke
        exact hk
    · intro h
      right
      rw [h2]
      exact List.mem_map.mpr ⟨j, h j rfl, rfl⟩
/-- among those that are left there is one that is free -/
theorem Good.some_free {l : List It} (gd : Good l) {dn tn : List Nat} (hp : ∀ j, j < l.length → j ∈ dn ∨ j ∈ tn) (ht : ∀ j ∈ tn, j < l.length) (hne : tn ≠ []) : ∃ x ∈ tn, Fr l dn x := by
  have key : ∀ (f i : Nat), i ∈ tn → it (Gr l) f i = none → ∃ x ∈ tn, Fr l dn x := by
    intro f
    induction f with
    | zero => intro i _ h; rw [it_zero] at h; cases h
    | succ f ih =>
      intro i hi h
      rw [it_succ'] at h
      by_cases hf : Fr l dn i
      · exact ⟨i, hi, hf⟩
      · unfold Fr at hf
        cases e : Gr l i with
        | none => exact absurd (fun j hj => by rw [e] at hj; cases hj) hf
        | some j =>
          rw [e, Option.bind_some] at h
          have hjd : j ∉ dn := fun hd => hf (fun j' hj' => by rw [e] at hj'; obtain rfl := Option.some.inj hj'; exact hd)
          exact ih j ((hp j (Gr_lt i j e)).resolve_left hjd) h
  cases tn with
  | nil => exact absurd rfl hne
  | cons i t => exact key _ i (by simp) (gd.ends (ht i (by simp)))

abbrev zs (t : List Nat) : List Int := t.map fun (i : Nat) => (i : Int)
theorem zs_get {t : List Nat} {k : Nat} (h : k < t.length) : (zs t)[k]'(by simpa using h) = ((t[k] : Nat) : Int) := by simp [zs]
theorem rd_zs {t : List Nat} {k : Nat} (h : k < t.length) : rd (zs t) (k : Int) = ((t[k] : Nat) : Int) := by
  unfold rd zs
  rw [Int.toNat_natCast, List.getD_eq_getElem?_getD, List.getElem?_map, List.getElem?_eq_getElem h]; rfl
theorem Good.go {l : List It} (gd : Good l) : ∀ (f : Nat) (tn dn : List Nat), tn.length = f → tn.Pairwise (kLt l) → (∀ j ∈ tn, j < l.length) → (∀ j ∈ dn, j < l.length) → (∀ j, j < l.length → j ∈ dn ∨ j ∈ tn) →
    ∃ s : List Nat, orderGo l (ownS l) f (zs tn) (dn.map (cl l)) = some ((dn ++ s).map (cl l)) ∧ s.Perm tn ∧ IsOrd l dn s := by
  intro f
  induction f with
  | zero =>
    intro tn dn hl _ _ _ _
    obtain rfl := List.eq_nil_of_length_eq_zero hl
    exact ⟨[], by rw [orderGo, if_pos (show zs [] = [] from rfl), List.append_nil], List.Perm.refl _, trivial⟩
  | succ f ih =>
    intro tn dn hl hs ht hd hp
    have hne : tn ≠ [] := fun e => by rw [e] at hl; simp at hl
    obtain ⟨x0, hx0, hf0⟩ := gd.some_free hp ht hne
    obtain ⟨m, hm, hpm, hlt, hfp⟩ := firstP_at (freeB (ownS l) (dn.map (cl l))) (zs tn) 0 ⟨(x0 : Int), List.mem_map.mpr ⟨x0, hx0, rfl⟩, (gd.free hd (ht x0 hx0)).mpr hf0⟩
    have hm' : m < tn.length := by simpa using hm
    rw [zs_get hm'] at hpm
    have hxl : tn[m] < l.length := ht _ (List.getElem_mem hm')
    have hfx : Fr l dn tn[m] := (gd.free hd hxl).mp hpm
    have hz : zs tn ≠ [] := fun e => hne (by simpa [zs] using e)
    have her : (zs tn).eraseIdx m = zs (tn.eraseIdx m) := by unfold zs; rw [List.eraseIdx_eq_take_drop_succ, List.eraseIdx_eq_take_drop_succ, List.map_append, List.map_take, List.map_drop]
    have hdm : dn.map (cl l) ++ [cl l tn[m]] = (dn ++ [tn[m]]).map (cl l) := by simp
    have hperm : (tn[m] :: tn.eraseIdx m).Perm tn := by
      rw [List.eraseIdx_eq_take_drop_succ]
      conv => rhs; rw [← List.take_append_drop m tn, List.drop_eq_getElem_cons hm']
      exact List.perm_middle.symm
    obtain ⟨s, h1, h2, h3⟩ := ih (tn.eraseIdx m) (dn ++ [tn[m]]) (by rw [List.length_eraseIdx_of_lt hm']; omega) (hs.sublist (List.eraseIdx_sublist _ _)) (fun j hj => ht j (List.mem_of_mem_eraseIdx hj))
      (by intro j hj; rcases List.mem_append.mp hj with hj | hj; exact hd j hj; simp at hj; rw [hj]; exact hxl)
      (by
        intro j hj
        rcases hp j hj with h | h
        · exact .inl (by simp [h])
        · rcases List.mem_cons.mp (hperm.mem_iff.mpr h) with h | h
          · exact .inl (by simp [h])
          · exact .inr h)
    refine ⟨tn[m] :: s, ?_, (List.Perm.cons _ h2).trans hperm, hfx, ?_, h3⟩
    · rw [orderGo, if_neg hz, hfp, if_neg (by omega), show (0 : Int) + (m : Int) = (m : Int) by omega, Int.toNat_natCast, her, rd_zs hm', hdm, h1, List.append_assoc]; rfl
    · intro y hy hfy
      have hy2 : y ∈ tn.eraseIdx m := h2.mem_iff.mp hy
      obtain ⟨k, hk, hke⟩ := List.mem_iff_getElem.mp (List.mem_of_mem_eraseIdx hy2)
      rcases Nat.lt_trichotomy k m with h | h | h
      · have := hlt k h
        rw [zs_get hk] at this
        have hfk := (gd.free hd (ht _ (List.getElem_mem hk))).mpr (by rw [hke]; exact hfy)
        rw [this] at hfk; cases hfk
      · exfalso
        subst h
        obtain ⟨q, hq, hqe⟩ := List.mem_eraseIdx_iff_getElem.mp hy2
        obtain ⟨hqk, hqe⟩ := hqe
        have hnd : tn.Nodup := hs.imp (fun h => by rintro rfl; exact kLt_asymm h h)
        exact hqk ((List.getElem_inj hnd).mp (hqe.trans hke.symm))
      · rw [← hke]
        exact List.pairwise_iff_getElem.mp hs m k hm' hk h

/-! ### the row that is sorted -/
theorem Good.cfO_k {l : List It} (gd : Good l) {i j : Nat} (hi : i < l.length) (hj : j < l.length) : cfO l (bdS l) (i : Int) (j : Int) < 0 ↔ kLt l i j := by
  rw [cfO_lt, rd_bdS hi, rd_bdS hj]; rfl
theorem Good.sorted {l : List It} (gd : Good l) : ∃ tn : List Nat, sortV l (bdS l) = zs tn ∧ tn.Perm (List.range l.length) ∧ tn.Pairwise (kLt l) := by
  let le : Nat → Nat → Bool := fun x y => !decide (cfO l (bdS l) (y : Int) (x : Int) < 0)
  have hmap : sortV l (bdS l) = zs ((List.range l.length).mergeSort le) := by
    unfold sortV idxs zs
    exact (List.map_mergeSort (f := fun (i : Nat) => (i : Int)) (r := le) (s := fun x y => !decide (cfO l (bdS l) y x < 0)) (fun a _ b _ => rfl)).symm
  have hperm := List.mergeSort_perm (List.range l.length) le
  have hlt : ∀ i ∈ (List.range l.length).mergeSort le, i < l.length := fun i hi => List.mem_range.mp (hperm.mem_iff.mp hi)
  have hc : ∀ (bs : List Int) (x y : Int), cfO l bs x y < 0 ∨ ¬ cfO l bs x y < 0 := fun bs x y => by omega
  have hsorted : ((List.range l.length).mergeSort le).Pairwise (fun a b => le a b = true) := by
    refine List.pairwise_mergeSort (le := le) ?_ ?_ _
    · intro a b c h1 h2
      simp only [le, Bool.not_eq_true', decide_eq_false_iff_not, cfO_lt] at *
      omega
    · intro a b
      simp only [le, Bool.or_eq_true, Bool.not_eq_true', decide_eq_false_iff_not, cfO_lt]
      omega
  refine ⟨_, hmap, hperm, ?_⟩
  have hnd : ((List.range l.length).mergeSort le).Nodup := hperm.nodup_iff.mpr List.nodup_range
  have hboth := List.Pairwise.and hsorted hnd
  refine List.Pairwise.imp_of_mem ?_ hboth
  intro a b ha hb ⟨h1, h2⟩
  simp only [le, Bool.not_eq_true', decide_eq_false_iff_not] at h1
  rw [gd.cfO_k (hlt b hb) (hlt a ha)] at h1
  rcases gd.kLt_tot (hlt a ha) (hlt b hb) h2 with h | h
  · exact h
  · exact absurd h h1
theorem Good.order {l : List It} (gd : Good l) : ∃ s : List Nat, orderV l = some (s.map (cl l)) ∧ s.Perm (List.range l.length) ∧ IsOrd l [] s := by
  obtain ⟨tn, h1, h2, h3⟩ := gd.sorted
  obtain ⟨s, g1, g2, g3⟩ := gd.go l.length tn [] (by rw [h2.length_eq, List.length_range]) h3 (fun j hj => List.mem_range.mp (h2.mem_iff.mp hj)) (by simp) (fun j hj => .inr (h2.mem_iff.mpr (List.mem_range.mpr hj)))
  refine ⟨s, ?_, g2.trans h2, g3⟩
  unfold orderV
  rw [gd.owners, gd.bandsV, h1]
  exact g1
theorem order_f {l : List It} (hw : ∀ x ∈ l, wfIt x) : (∃ gd : Good l, ∃ s : List Nat, order_Order.f l = some (s.map (cl l), 0) ∧ s.Perm (List.range l.length) ∧ IsOrd l [] s) ∨ (¬ Good l ∧ order_Order.f l = some ([], chkV l)) := by
  unfold order_Order.f
  rw [check_f hw, Option.bind_some]
  by_cases h : Good l
  · obtain ⟨s, h1, h2, h3⟩ := h.order
    refine .inl ⟨h, s, ?_, h2, h3⟩
    rw [if_pos ((chkV_zero l).2 h), if_pos h.bandsOK, h1]; rfl
  · exact .inr ⟨h, by rw [if_neg (fun e => h ((chkV_zero l).1 e))]⟩
end Go.Proofs.Ytplchdlcolepmaa.G
