/-
  What the document's answers of the chapter order compute over good lists: places, checks, next ones, cuts, owners. Plain Lean.
-/
import Derived.Test.YtplchdlcolepmaaFSpec
import Derived.Test.YtplchdlcolepmaaEv
import Derived.Test.YtplchdlcolepmaaPx3
namespace Go.Proofs.Ytplchdlcolepmaa.G
open Go.Proofs.Ytplchdlcolepmaa.P Go.Proofs.Ytplchdlcolepmaa.E Go.RowKit Go.Proofs.YtplchdlcolepmaaW.PrintWords Go.Proofs.YtplchdlcolepmaaW.PrintLast
set_option linter.unusedVariables false
set_option linter.unusedSimpArgs false

abbrev Sh (l : List It) : Prop := l.length ≤ 17592186044416
theorem ref_place_go (l : List It) (c : Int) (hl : Sh l) : ∀ (m : List It) (j : Nat), l.drop j = m → Ev (fun k => casementref16_Place.l0 k l c (j : Int)) (idxF m c j) := by
  intro m
  induction m with
  | nil =>
    intro j h
    have hj : l.length ≤ j := by simpa using h
    refine Ev.step (fun _ => by rw [casementref16_Place.l0]) ?_
    exact Ev.neg (by omega) (Ev.fin rfl)
  | cons x m ih =>
    intro j h
    obtain ⟨h1, h2, h3⟩ := rd_drop h
    have hl' : l.length ≤ 17592186044416 := hl
    refine Ev.step (fun _ => by rw [casementref16_Place.l0]) ?_
    refine Ev.pos (by omega) (Ev.pos (by omega) ?_)
    rw [h1, idxF]
    by_cases e : x.f0 = c
    · exact Ev.pos e (Ev.fin (by rw [if_pos e]))
    · rw [if_neg e, wadd1 (by omega)]
      exact Ev.neg e (ih (j + 1) h3)
theorem ref_place (l : List It) (c : Int) (hl : Sh l) : Ev (fun k => casementref16_Place.f k l c) (idxF l c 0) := ref_place_go l c hl l 0 rfl
theorem pl_min {l : List It} {c : Int} {i : Nat} (h : pl l c = some i) {a : Nat} (ha : a < i) : (rdI l a).f0 ≠ c := by
  have hi := (pl_some h).1
  unfold pl at h
  rw [List.findIdx?_eq_some_iff_getElem] at h
  obtain ⟨h1, h2, h3⟩ := h
  rw [rdI_at (by omega)]
  simpa using h3 a ha
theorem place_is {l : List It} {j : Nat} (hj : j < l.length) : idxF l (rdI l j).f0 0 = (j : Int) ↔ ∀ i, i < j → (rdI l i).f0 ≠ (rdI l j).f0 := by
  rw [idxF_pl]
  cases e : pl l (rdI l j).f0 with
  | none => exact absurd rfl (pl_none e hj)
  | some a =>
    show (0 : Int) + (a : Int) = (j : Int) ↔ _
    constructor
    · intro h i hi
      exact pl_min e (by omega)
    · intro h
      have h1 : ¬ a < j := fun h2 => h a h2 (pl_some e).2
      have h2 : ¬ j < a := fun h2 => pl_min e h2 rfl
      omega
theorem ref_check_go (l : List It) (hl : Sh l) : ∀ (m : List It) (j : Nat) (seen : List Int), l.drop j = m → (∀ c, c ∈ seen ↔ ∃ i, i < j ∧ (rdI l i).f0 = c) → Ev (fun k => casementref16_Check.l0 k l (j : Int)) (chkL seen m) := by
  intro m
  induction m with
  | nil =>
    intro j seen h hs
    have hj : l.length ≤ j := by simpa using h
    refine Ev.step (fun _ => by rw [casementref16_Check.l0]) ?_
    exact Ev.neg (by omega) (Ev.fin rfl)
  | cons x m ih =>
    intro j seen h hs
    obtain ⟨h1, h2, h3⟩ := rd_drop h
    have hl' : l.length ≤ 17592186044416 := hl
    have hx : idxF l x.f0 0 = (j : Int) ↔ x.f0 ∉ seen := by
      have := place_is h2
      rw [show rdI l (j : Int) = x from h1] at this
      rw [this, hs]
      simp
    refine Ev.step (fun _ => by rw [casementref16_Check.l0]) ?_
    refine Ev.pos (by omega) (Ev.pos (by omega) ?_)
    rw [h1, chkL]
    have hbad : ∀ h : badIt seen x, (if badIt seen x then (1 : Int) else chkL (x.f0 :: seen) m) = 1 := fun h => if_pos h
    by_cases e1 : x.f0 < 1
    · exact Ev.pos e1 (Ev.fin (hbad (Or.inl e1)).symm)
    refine Ev.neg e1 (Ev.bind (ref_place l x.f0 hl) ?_)
    by_cases e2 : x.f0 ∈ seen
    · exact Ev.neg (fun h => hx.1 h e2) (Ev.fin (hbad (Or.inr (Or.inl e2))).symm)
    refine Ev.pos (hx.2 e2) ?_
    by_cases e3 : x.f1 < 0
    · exact Ev.pos e3 (Ev.fin (hbad (Or.inr (Or.inr (Or.inl e3)))).symm)
    refine Ev.neg e3 ?_
    by_cases e4 : x.f1 > 4
    · exact Ev.pos e4 (Ev.fin (hbad (Or.inr (Or.inr (Or.inr (Or.inl (by omega)))))).symm)
    refine Ev.neg e4 ?_
    by_cases e5 : x.f4 < 0
    · exact Ev.pos e5 (Ev.fin (hbad (Or.inr (Or.inr (Or.inr (Or.inr (Or.inl e5)))))).symm)
    refine Ev.neg e5 ?_
    by_cases e6 : x.f5 < 0
    · exact Ev.pos e6 (Ev.fin (hbad (Or.inr (Or.inr (Or.inr (Or.inr (Or.inr e6)))))).symm)
    refine Ev.neg e6 ?_
    have hnb : ¬ badIt seen x := by
      rintro (h | h | h | h | h | h)
      · exact e1 h
      · exact e2 h
      · exact e3 h
      · omega
      · exact e5 h
      · exact e6 h
    rw [if_neg hnb, wadd1 (by omega)]
    refine ih (j + 1) (x.f0 :: seen) h3 ?_
    intro c
    rw [List.mem_cons, hs]
    constructor
    · rintro (rfl | ⟨i, hi, e⟩)
      · exact ⟨j, by omega, by rw [show rdI l (j : Int) = x from h1]⟩
      · exact ⟨i, by omega, e⟩
    · rintro ⟨i, hi, e⟩
      by_cases hij : i = j
      · subst hij
        left; rw [← e, show rdI l (i : Int) = x from h1]
      · right; exact ⟨i, by omega, e⟩
theorem Good.sh {l : List It} (g : Good l) : Sh l := Nat.le_trans g.len (by decide)
theorem ref_check (l : List It) : Ev (fun k => casementref16_Check.f k l) (chkV l) := by
  unfold chkV
  unfold casementref16_Check.f
  by_cases h : l.length > 128
  · rw [if_pos h]; exact Ev.pos (by omega) (Ev.fin rfl)
  · rw [if_neg h]; exact Ev.neg (by omega) (ref_check_go l (by show l.length ≤ 17592186044416; omega) l 0 [] rfl (by simp))

def oI (o : Option Nat) : Int := match o with | some j => (j : Int) | none => -1
theorem ref_next (l : List It) (hl : Sh l) {i : Nat} (hi : i < l.length) : Ev (fun k => casementref16_next.f k l (i : Int)) (oI (nx l i)) := by
  unfold casementref16_next.f
  refine Ev.pos (by omega) (Ev.pos (by omega) (Ev.bind (ref_place l _ hl) ?_))
  rw [idxF_pl]
  unfold nx
  rw [if_pos hi]
  cases e : pl l (rdI l (i : Int)).f2 with
  | none => exact Ev.neg (by simp only; omega) (Ev.fin rfl)
  | some j =>
    by_cases h : j = i
    · simp only [h, if_true]
      exact Ev.pos (by omega) (Ev.fin rfl)
    · simp only [if_neg h]
      exact Ev.neg (by omega) (Ev.fin (by simp [oI]))
theorem ref_younger (a b : It) : casementref16_younger.f a.f0 a.f1 a.f2 a.f3 a.f4 a.f5 b.f0 b.f1 b.f2 b.f3 b.f4 b.f5 = some (youngB a b) := by
  unfold casementref16_younger.f youngB
  by_cases h : a.f5 > b.f5
  · rw [if_pos h]; simp [h]
  · rw [if_neg h]
    by_cases h2 : a.f5 = b.f5
    · rw [if_pos h2]; simp [h2]
    · rw [if_neg h2]; simp [h2]; omega
theorem ring_some {nx : Nat → Option Nat} {i : Nat} (hi : InRing nx i) (a : Nat) : ∃ k, it nx a i = some k := by
  obtain ⟨p, hp, hpi⟩ := hi
  have h1 : it nx (a + (p * (a + 1) - a)) i = some i := by
    have h2 : a + (p * (a + 1) - a) = (a + 1) * p + 0 := by
      have : a + 1 ≤ p * (a + 1) := Nat.le_mul_of_pos_left _ hp
      rw [Nat.mul_comm] at this ⊢; omega
    rw [h2, it_turns hpi]; rfl
  obtain ⟨j, hj, _⟩ := it_prev h1
  exact ⟨j, hj⟩
open Classical in
noncomputable def cutB (l : List It) (i : Nat) : Bool := decide (Cut (nx l) (Yg l) i)
open Classical in
theorem cutB_true {l : List It} {i : Nat} (h : Cut (nx l) (Yg l) i) : cutB l i = true := by unfold cutB; exact decide_eq_true h
open Classical in
theorem cutB_false {l : List It} {i : Nat} (h : ¬ Cut (nx l) (Yg l) i) : cutB l i = false := by unfold cutB; exact decide_eq_false h
theorem ref_cut_go (l : List It) (gd : Good l) (hl : Sh l) {i : Nat} (hi : i < l.length) : ∀ (d n : Nat), n + d = l.length + 1 → (∀ a k, 1 ≤ a → a ≤ n → it (nx l) a i = some k → k ≠ i ∧ Yg l k i = false) → Ev (fun k => casementref16_cut.l0 k l (i : Int) (oI (it (nx l) (n + 1) i)) (n : Int)) (cutB l i) := by
  have hl' : l.length ≤ 17592186044416 := hl
  intro d
  induction d with
  | zero =>
    intro n hn hs
    refine Ev.step (fun _ => by rw [casementref16_cut.l0]) ?_
    refine Ev.neg (by omega) ?_
    refine Ev.step (fun _ => by rw [casementref16_cut.j1]) ?_
    refine Ev.neg (by decide) (Ev.fin ?_)
    symm
    refine cutB_false ?_
    rintro ⟨hr, _⟩
    obtain ⟨p, h0, hp, hlp⟩ := least hr
    have hpn := least_le (nx_lt l) hi hp hlp
    exact (hs p i h0 (by omega) hp).1 rfl
  | succ d ih =>
    intro n hn hs
    refine Ev.step (fun _ => by rw [casementref16_cut.l0]) ?_
    refine Ev.pos (by omega) ?_
    refine Ev.step (fun _ => by rw [casementref16_cut.j1]) ?_
    cases e : it (nx l) (n + 1) i with
    | none =>
      refine Ev.neg (by decide) (Ev.fin ?_)
      symm
      refine cutB_false ?_
      rintro ⟨hr, _⟩
      obtain ⟨k, hk⟩ := ring_some hr (n + 1)
      rw [e] at hk; simp at hk
    | some k =>
      have hk := it_lt (nx_lt l) hi e
      show Ev (fun m => if decide (oI (some k) ≥ 0) = true then _ else _) _
      refine Ev.pos (by simp [oI]) ?_
      by_cases h : k = i
      · subst h
        refine Ev.pos rfl (Ev.fin ?_)
        symm
        refine cutB_true ⟨⟨n + 1, by omega, e⟩, ?_⟩
        intro m t ht
        rw [it_mod (by omega : 0 < n + 1) e] at ht
        have hlt := Nat.mod_lt m (show 0 < n + 1 by omega)
        by_cases h0 : m % (n + 1) = 0
        · rw [h0] at ht
          injection ht with ht; subst ht
          exact gd.young.irr _
        · exact (hs _ t (by omega) (by omega) ht).2
      · refine Ev.neg (by show ¬ (k : Int) = i; omega) ?_
        refine Ev.pos (by show 0 ≤ (k : Int); omega) (Ev.pos (by show (k : Int) < _; omega) (Ev.pos (by omega) (Ev.pos (by omega) ?_)))
        refine Ev.bind (Ev.con (ref_younger (rdI l (k : Int)) (rdI l (i : Int)))) ?_
        by_cases hy : Yg l k i = true
        · refine Ev.pos hy (Ev.fin ?_)
          symm
          refine cutB_false ?_
          rintro ⟨_, ht⟩
          have := ht (n + 1) k e
          rw [hy] at this; exact absurd this (by decide)
        · refine Ev.neg hy (Ev.bind (ref_next l hl hk) ?_)
          rw [wadd1 (by omega)]
          have := ih (n + 1) (by omega) (by
            intro a z h1 h2 hz
            by_cases ha : a = n + 1
            · subst ha
              rw [e] at hz; injection hz with hz; subst hz
              exact ⟨h, by simpa using hy⟩
            · exact hs a z h1 (by omega) hz)
          rw [it_succ, e] at this
          exact this
theorem ref_cut (l : List It) (gd : Good l) (hl : Sh l) {i : Nat} (hi : i < l.length) : Ev (fun k => casementref16_cut.f k l (i : Int)) (cutB l i) := by
  unfold casementref16_cut.f
  refine Ev.bind (ref_next l hl hi) ?_
  exact ref_cut_go l gd hl hi (l.length + 1) 0 (by omega) (by intro a k h1 h2; omega)

theorem Gr_cut {l : List It} {i : Nat} (hi : i < l.length) (h : Cut (nx l) (Yg l) i) : Gr l i = none := (cur_all hi).1 h
theorem Gr_not {l : List It} {i : Nat} (hi : i < l.length) (h : ¬ Cut (nx l) (Yg l) i) : Gr l i = nx l i := (cur_all hi).2 h
theorem ownS_len (l : List It) : (ownS l).length = l.length := osOf_len l _
theorem ownS_none {l : List It} {i : Nat} (hi : i < l.length) (h : Gr l i = none) : rd (ownS l) (i : Int) = 0 := by unfold ownS; rw [osOf_at l _ hi, h]; rfl
theorem Good.ownS_some {l : List It} (gd : Good l) {i j : Nat} (hi : i < l.length) (h : Gr l i = some j) : rd (ownS l) (i : Int) = (rdI l (i : Int)).f2 ∧ rd (ownS l) (i : Int) = (rdI l (j : Int)).f0 ∧ rd (ownS l) (i : Int) ≠ 0 ∧ idxF l (rd (ownS l) (i : Int)) 0 = (j : Int) := by
  obtain ⟨h1, h2, h3, h4, h5⟩ := nx_some (Gr_nx h)
  have e : rd (ownS l) (i : Int) = (rdI l (i : Int)).f2 := by unfold ownS; rw [osOf_at l _ hi, h]; rfl
  refine ⟨e, by rw [e, h5], ?_, ?_⟩
  · rw [e, ← h5]
    have := (gd.okAt h2).1
    omega
  · rw [e, idxF_pl, h4]; show (0 : Int) + (j : Int) = j; omega
theorem take_rd {l : List Int} {j : Nat} (hj : j < l.length) : l.take j ++ [rd l (j : Int)] = l.take (j + 1) := by
  rw [List.take_succ_eq_append_getElem hj]
  unfold rd
  rw [Int.toNat_natCast, List.getD_eq_getElem?_getD, List.getElem?_eq_getElem hj]; rfl
theorem ref_owners_go (l : List It) (gd : Good l) (hl : Sh l) : ∀ (d j : Nat), j + d = l.length → Ev (fun k => casementref16_Owners.l0 k l ((ownS l).take j) (j : Int)) (ownS l) := by
  have hl' : l.length ≤ 17592186044416 := hl
  intro d
  induction d with
  | zero =>
    intro j hj
    refine Ev.step (fun _ => by rw [casementref16_Owners.l0]) ?_
    refine Ev.neg (by omega) (Ev.fin ?_)
    rw [List.take_of_length_le]; rw [ownS_len]; omega
  | succ d ih =>
    intro j hj
    have hjl : j < l.length := by omega
    have hlen : ((ownS l).take j).length < 17592186044416 := by rw [List.length_take, ownS_len]; omega
    have hgo := ih (j + 1) (by omega)
    rw [← take_rd (by rw [ownS_len]; exact hjl)] at hgo
    refine Ev.step (fun _ => by rw [casementref16_Owners.l0]) ?_
    refine Ev.pos (by omega) (Ev.bind (ref_next l hl hjl) ?_)
    rw [wadd1 (by omega)]
    cases e : nx l j with
    | none =>
      have hg : Gr l j = none := by
        cases e2 : Gr l j with
        | none => rfl
        | some z => have := Gr_nx e2; rw [e] at this; simp at this
      rw [ownS_none hjl hg] at hgo
      exact Ev.pos (by decide) (Ev.pos hlen hgo)
    | some z =>
      refine Ev.neg (by show ¬ (z : Int) < 0; omega) (Ev.bind (ref_cut l gd hl hjl) ?_)
      by_cases hc : Cut (nx l) (Yg l) j
      · rw [ownS_none hjl (Gr_cut hjl hc)] at hgo
        exact Ev.pos (cutB_true hc) (Ev.pos hlen hgo)
      · rw [(gd.ownS_some hjl ((Gr_not hjl hc).trans e)).1] at hgo
        exact Ev.neg (by rw [cutB_false hc]; decide) (Ev.pos (by omega) (Ev.pos hlen hgo))
theorem ref_owners (l : List It) : Ev (fun k => casementref16_Owners.f k l) (ownV l) := by
  unfold casementref16_Owners.f ownV
  refine Ev.bind (ref_check l) ?_
  by_cases h : Good l
  · rw [if_pos h]
    exact Ev.pos ((chkV_zero l).2 h) (ref_owners_go l h h.sh l.length 0 (by omega))
  · rw [if_neg h]
    exact Ev.neg (fun e => h ((chkV_zero l).1 e)) (Ev.fin rfl)

end Go.Proofs.Ytplchdlcolepmaa.G
