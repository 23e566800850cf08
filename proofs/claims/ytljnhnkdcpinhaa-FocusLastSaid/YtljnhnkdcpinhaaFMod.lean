/-
  Who has the focus in a client's place: what the given program's Modal and the document's Modal compute, and that they tell the same. Plain Lean.
-/
import Derived.Test.YtljnhnkdcpinhaaFRef
import Derived.Test.YtljnhnkdcpinhaaOpen
namespace Go.Proofs.Ytljnhnkdcpinhaa.G
open Go.Proofs.Ytljnhnkdcpinhaa.P Go.Proofs.Ytljnhnkdcpinhaa.E Go.Proofs.Ytljnhnkdcpinhaa.O Go.RowKit Go.Proofs.YtljnhnkdcpinhaaW.PrintWords Go.Proofs.YtljnhnkdcpinhaaW.PrintLast
set_option linter.unusedVariables false
set_option linter.unusedSimpArgs false

/-! ### the greatest modal one -/
def grt (a b : It) : Prop := a.f4 > b.f4 ∨ (a.f4 = b.f4 ∧ (a.f5 > b.f5 ∨ (a.f5 = b.f5 ∧ a.f0 > b.f0)))
instance (a b : It) : Decidable (grt a b) := by unfold grt; infer_instance
noncomputable def bst (l : List It) (c : Int) : Nat → Int
  | 0 => -1
  | i + 1 => if (rdI l (i : Int)).f3 = true then (if ownC l i c = true then (if bst l c i < 0 then (i : Int) else if grt (rdI l (i : Int)) (rdI l (bst l c i)) then (i : Int) else bst l c i) else bst l c i) else bst l c i
theorem bst_in (l : List It) (c : Int) : ∀ i, bst l c i < 0 ∨ ∃ b : Nat, bst l c i = (b : Int) ∧ b < i ∧ (rdI l (b : Int)).f3 = true ∧ ownC l b c = true := by
  intro i
  induction i with
  | zero => left; show (-1 : Int) < 0; decide
  | succ i ih =>
    have old : bst l c i < 0 ∨ ∃ b : Nat, bst l c i = (b : Int) ∧ b < i + 1 ∧ (rdI l (b : Int)).f3 = true ∧ ownC l b c = true := by
      rcases ih with h | ⟨b, h1, h2, h3⟩
      · left; exact h
      · right; exact ⟨b, h1, by omega, h3⟩
    rw [bst]
    by_cases h1 : (rdI l (i : Int)).f3 = true
    · rw [if_pos h1]
      by_cases h2 : ownC l i c = true
      · rw [if_pos h2]
        have new : ∃ b : Nat, (i : Int) = (b : Int) ∧ b < i + 1 ∧ (rdI l (b : Int)).f3 = true ∧ ownC l b c = true := ⟨i, rfl, by omega, h1, h2⟩
        split
        · right; exact new
        · split
          · right; exact new
          · exact old
      · rw [if_neg h2]; exact old
    · rw [if_neg h1]; exact old
theorem bst_no (l : List It) (c : Int) : ∀ i, bst l c i < 0 → ∀ b : Nat, b < i → (rdI l (b : Int)).f3 = true → ownC l b c = true → False := by
  intro i
  induction i with
  | zero => intro _ b h; omega
  | succ i ih =>
    intro h b hb h3 h4
    rw [bst] at h
    by_cases e : b = i
    · subst e
      rw [if_pos h3, if_pos h4] at h
      split at h
      · omega
      · split at h
        · omega
        · contradiction
    · refine ih ?_ b (by omega) h3 h4
      split at h
      · split at h
        · split at h
          · assumption
          · split at h
            · omega
            · exact h
        · exact h
      · exact h

/-! ### who has the focus in a client's place -/
inductive Mod (l : List It) : Int → Int → Prop
  | stop {c : Int} : bst l c l.length < 0 → Mod l c c
  | go {c r : Int} {b : Nat} : bst l c l.length = (b : Int) → Mod l (rdI l (b : Int)).f0 r → Mod l c r
theorem Mod.fix {l : List It} {c r : Int} (h : Mod l c r) : bst l r l.length < 0 := by
  induction h with
  | stop h => exact h
  | go _ _ ih => exact ih
theorem Mod.kind {l : List It} {c r : Int} (h : Mod l c r) : r = c ∨ ∃ b : Nat, b < l.length ∧ (rdI l (b : Int)).f0 = r ∧ (rdI l (b : Int)).f3 = true := by
  induction h with
  | stop h => left; rfl
  | @go c r b e h ih =>
    right
    rcases ih with rfl | ih
    · rcases bst_in l c l.length with h2 | ⟨b', h1, h2, h3, h4⟩
      · omega
      · have : b' = _ := Int.ofNat.inj (h1.symm.trans e)
        subst this
        exact ⟨_, h2, rfl, h3⟩
    · exact ih
theorem Good.mod_at {l : List It} (gd : Good l) : ∀ t, t ≤ l.length → ∀ j, j < l.length → (∃ z, it (Gr l) (l.length - t) j = some z) → ∃ r, Mod l (rdI l (j : Int)).f0 r := by
  intro t
  induction t with
  | zero =>
    rintro _ j hj ⟨z, hz⟩
    rw [Nat.sub_zero, gd.ends hj] at hz; simp at hz
  | succ t ih =>
    rintro ht j hj ⟨z, hz⟩
    rcases bst_in l (rdI l (j : Int)).f0 l.length with h | ⟨b, h1, h2, h3, h4⟩
    · exact ⟨_, Mod.stop h⟩
    · obtain ⟨m, j', hm, e⟩ := ownC_iff.1 h4
      have hj' := it_lt Gr_lt h2 hm
      have := gd.inj hj' hj e
      subst this
      have h5 : it (Gr l) ((m + 1) + (l.length - (t + 1))) b = some z := by rw [it_add, hm]; exact hz
      have h6 : it (Gr l) ((l.length - t) + m) b = some z := by rw [show l.length - t + m = m + 1 + (l.length - (t + 1)) by omega]; exact h5
      obtain ⟨y, hy, _⟩ := it_prev h6
      obtain ⟨r, hr⟩ := ih (by omega) b h2 ⟨y, hy⟩
      exact ⟨r, Mod.go h1 hr⟩
theorem Good.mod {l : List It} (gd : Good l) (c : Int) : ∃ r, Mod l c r := by
  rcases bst_in l c l.length with h | ⟨b, h1, h2, h3, h4⟩
  · exact ⟨c, Mod.stop h⟩
  · obtain ⟨r, hr⟩ := gd.mod_at l.length (Nat.le_refl _) b h2 ⟨b, by rw [Nat.sub_self]; rfl⟩
    exact ⟨r, Mod.go h1 hr⟩

/-! ### the document's Modal -/
theorem ref_greater (a b : It) : casementref17_greater.f a.f0 a.f1 a.f2 a.f3 a.f4 a.f5 b.f0 b.f1 b.f2 b.f3 b.f4 b.f5 = some (decide (grt a b)) := by
  unfold casementref17_greater.f grt
  by_cases h4 : a.f4 = b.f4
  · rw [if_pos h4]
    by_cases h5 : a.f5 = b.f5
    · rw [if_pos h5]
      congr 1
      refine decide_eq_decide.2 ?_
      omega
    · rw [if_neg h5]
      congr 1
      refine decide_eq_decide.2 ?_
      omega
  · rw [if_neg h4]
    congr 1
    refine decide_eq_decide.2 ?_
    omega
theorem ref_modal_go (l : List It) (gd : Good l) (hl : Sh l) (c r : Int) (H : (bst l c l.length < 0 ∧ r = c) ∨ ∃ b : Nat, bst l c l.length = (b : Int) ∧ b < l.length ∧ Ev (fun k => casementref17_Modal.f k l (rdI l (b : Int)).f0) r) :
    ∀ (d i : Nat), i + d = l.length → Ev (fun k => casementref17_Modal.l0 k l c (bst l c i) (i : Int)) r := by
  have hl' : l.length ≤ 17592186044416 := hl
  intro d
  induction d with
  | zero =>
    intro i hi
    obtain rfl : i = l.length := by omega
    refine Ev.step (fun _ => by rw [casementref17_Modal.l0]) ?_
    refine Ev.neg (by omega) ?_
    rcases H with ⟨h, rfl⟩ | ⟨b, h1, h2, h3⟩
    · exact Ev.pos h (Ev.fin rfl)
    · rw [h1]
      exact Ev.neg (by omega) (Ev.pos (by omega) (Ev.pos (by omega) (Ev.bind h3 (Ev.fin rfl))))
  | succ d ih =>
    intro i hi
    have hil : i < l.length := by omega
    have hgo := ih (i + 1) (by omega)
    rw [bst] at hgo
    refine Ev.step (fun _ => by rw [casementref17_Modal.l0]) ?_
    refine Ev.pos (by omega) (Ev.pos (by omega) ?_)
    rw [wadd1 (by omega)]
    by_cases h3 : (rdI l (i : Int)).f3 = true
    · rw [if_pos h3] at hgo
      refine Ev.pos h3 (Ev.bind (ref_own l gd hl c hil) ?_)
      by_cases h4 : ownC l i c = true
      · rw [if_pos h4] at hgo
        refine Ev.pos h4 ?_
        rcases bst_in l c i with hb | ⟨b, h1, h2, _⟩
        · rw [if_pos hb] at hgo
          exact Ev.pos hb hgo
        · have hnb : ¬ bst l c i < 0 := by omega
          rw [if_neg hnb] at hgo
          refine Ev.neg hnb (Ev.pos (by omega) (Ev.pos (by omega) ?_))
          refine Ev.bind (Ev.con (ref_greater (rdI l (i : Int)) (rdI l (bst l c i)))) ?_
          by_cases hg : grt (rdI l (i : Int)) (rdI l (bst l c i))
          · rw [if_pos hg] at hgo
            exact Ev.pos (decide_eq_true hg) hgo
          · rw [if_neg hg] at hgo
            exact Ev.neg (by rw [decide_eq_false hg]; decide) hgo
      · rw [if_neg h4] at hgo
        exact Ev.neg h4 hgo
    · rw [if_neg h3] at hgo
      exact Ev.neg h3 hgo
theorem ref_modal (l : List It) (gd : Good l) (hl : Sh l) {c r : Int} (h : Mod l c r) : Ev (fun k => casementref17_Modal.f k l c) r := by
  induction h with
  | @stop c h =>
    refine Ev.step (fun _ => by rw [casementref17_Modal.f]) ?_
    refine Ev.bind (ref_check l) (Ev.pos ((chkV_zero l).2 gd) ?_)
    exact ref_modal_go l gd hl c c (Or.inl ⟨h, rfl⟩) l.length 0 (by omega)
  | @go c r b e h ih =>
    refine Ev.step (fun _ => by rw [casementref17_Modal.f]) ?_
    refine Ev.bind (ref_check l) (Ev.pos ((chkV_zero l).2 gd) ?_)
    refine ref_modal_go l gd hl c r (Or.inr ⟨b, e, ?_, ih⟩) l.length 0 (by omega)
    rcases bst_in l c l.length with h2 | ⟨b', h1, h2, _⟩
    · omega
    · omega

/-! ### the given program's Modal -/
theorem prog_or3 (a b c : Int) : Ev (fun k => cmp_Or_int.f k [a, b, c]) (if a = 0 then (if b = 0 then c else b) else a) := by
  refine Ev.of (k := 4) (fun k => cmp_Or_int.mono _ k) ?_
  unfold cmp_Or_int.f
  by_cases h : a = 0
  · by_cases h2 : b = 0
    · by_cases h3 : c = 0
      · simp [cmp_Or_int.l0, rd, h, h2, h3, wrap64]
      · simp [cmp_Or_int.l0, rd, h, h2, h3, wrap64]
    · simp [cmp_Or_int.l0, rd, h, h2, wrap64]
  · simp [cmp_Or_int.l0, rd, h]
theorem or3_pos (a b : It) : (if (if a.f4 < b.f4 then (-1 : Int) else if a.f4 > b.f4 then 1 else 0) = 0 then (if (if a.f5 < b.f5 then (-1 : Int) else if a.f5 > b.f5 then 1 else 0) = 0 then (if a.f0 < b.f0 then (-1 : Int) else if a.f0 > b.f0 then 1 else 0) else (if a.f5 < b.f5 then (-1 : Int) else if a.f5 > b.f5 then 1 else 0)) else (if a.f4 < b.f4 then (-1 : Int) else if a.f4 > b.f4 then 1 else 0)) > 0 ↔ grt a b := by
  unfold grt
  by_cases h1 : a.f4 < b.f4
  · simp [h1] <;> omega
  · by_cases h2 : a.f4 > b.f4
    · simp [h1, h2]
    · by_cases h3 : a.f5 < b.f5
      · simp [h1, h2, h3] <;> omega
      · by_cases h4 : a.f5 > b.f5
        · simp [h1, h2, h3, h4] <;> omega
        · by_cases h5 : a.f0 < b.f0
          · simp [h1, h2, h3, h4, h5] <;> omega
          · by_cases h6 : a.f0 > b.f0
            · simp [h1, h2, h3, h4, h5, h6] <;> omega
            · simp [h1, h2, h3, h4, h5, h6] <;> omega
def bI (l : List It) (b : Int) : It := if b < 0 then ⟨0, 0, 0, false, 0, 0⟩ else rdI l b
theorem prog_modal_go (l : List It) (gd : Good l) (hl : Sh l) (c r : Int) (H : (bst l c l.length < 0 ∧ r = c) ∨ ∃ b : Nat, bst l c l.length = (b : Int) ∧ b < l.length ∧ Ev (fun k => focus_Modal.l0 k l (rdI l (b : Int)).f0 (ownS l)) r) :
    ∀ (d i : Nat), i + d = l.length → Ev (fun k => focus_Modal.l1 k l c (ownS l) (l.length : Int) (i : Int) (bI l (bst l c i)).f0 (bI l (bst l c i)).f1 (bI l (bst l c i)).f2 (bI l (bst l c i)).f3 (bI l (bst l c i)).f4 (bI l (bst l c i)).f5) r := by
  have hl' : l.length ≤ 17592186044416 := hl
  intro d
  induction d with
  | zero =>
    intro i hi
    obtain rfl : i = l.length := by omega
    refine Ev.step (fun _ => by rw [focus_Modal.l1]) ?_
    refine Ev.neg (by omega) ?_
    rcases H with ⟨h, rfl⟩ | ⟨b, h1, h2, h3⟩
    · exact Ev.pos (by unfold bI; rw [if_pos h]) (Ev.fin rfl)
    · have e : bI l (bst l c l.length) = rdI l (b : Int) := by unfold bI; rw [h1, if_neg (by omega)]
      rw [e]
      have := (gd.okAt h2).1
      exact Ev.neg (by omega) h3
  | succ d ih =>
    intro i hi
    have hil : i < l.length := by omega
    have hgo := ih (i + 1) (by omega)
    rw [bst] at hgo
    refine Ev.step (fun _ => by rw [focus_Modal.l1]) ?_
    refine Ev.pos (by omega) (Ev.pos (by omega) (Ev.pos (by omega) ?_))
    rw [wadd1 (by omega)]
    by_cases h3 : (rdI l (i : Int)).f3 = true
    · rw [if_pos h3] at hgo
      refine Ev.pos h3 (Ev.bind (prog_own l gd c hil) ?_)
      by_cases h4 : ownC l i c = true
      · rw [if_pos h4] at hgo
        refine Ev.pos h4 ?_
        refine Ev.bind (Ev.con (cmp_f _ _)) (Ev.bind (Ev.con (cmp_f _ _)) (Ev.bind (Ev.con (cmp_f _ _)) (Ev.bind (prog_or3 _ _ _) ?_)))
        have hor := or3_pos (rdI l (i : Int)) (bI l (bst l c i))
        have hi0 : bI l (i : Int) = rdI l (i : Int) := by unfold bI; rw [if_neg (by omega)]
        rcases bst_in l c i with hb | ⟨b, h1, h2, _⟩
        · rw [if_pos hb, hi0] at hgo
          refine Ev.pos (hor.2 ?_) hgo
          obtain ⟨o0, o1, o2, o4, o5⟩ := gd.okAt hil
          unfold bI grt
          rw [if_pos hb]
          simp only
          omega
        · have hnb : ¬ bst l c i < 0 := by omega
          have hbI : bI l (bst l c i) = rdI l (bst l c i) := by unfold bI; rw [if_neg hnb]
          rw [if_neg hnb] at hgo
          by_cases hg : grt (rdI l (i : Int)) (rdI l (bst l c i))
          · rw [if_pos hg, hi0] at hgo
            exact Ev.pos (hor.2 (by rw [hbI]; exact hg)) hgo
          · rw [if_neg hg] at hgo
            exact Ev.neg (fun h => hg (by rw [← hbI]; exact hor.1 h)) hgo
      · rw [if_neg h4] at hgo
        exact Ev.neg h4 hgo
    · rw [if_neg h3] at hgo
      exact Ev.neg h3 hgo
theorem prog_modal_l0 (l : List It) (gd : Good l) (hl : Sh l) {c r : Int} (h : Mod l c r) : Ev (fun k => focus_Modal.l0 k l c (ownS l)) r := by
  induction h with
  | @stop c h =>
    refine Ev.step (fun _ => by rw [focus_Modal.l0]) ?_
    rw [ownS_len]
    exact prog_modal_go l gd hl c c (Or.inl ⟨h, rfl⟩) l.length 0 (by omega)
  | @go c r b e h ih =>
    refine Ev.step (fun _ => by rw [focus_Modal.l0]) ?_
    rw [ownS_len]
    refine prog_modal_go l gd hl c r (Or.inr ⟨b, e, ?_, ih⟩) l.length 0 (by omega)
    rcases bst_in l c l.length with h2 | ⟨b', h1, h2, _⟩
    · omega
    · omega

/-! ### both, for every list -/
open Classical in
/-- who has the focus in a client's place -/
noncomputable def modV (l : List It) (c : Int) : Int := if h : Good l then (h.mod c).choose else c
theorem Good.modV {l : List It} (gd : Good l) (c : Int) : Mod l c (modV l c) := by
  unfold G.modV; rw [dif_pos gd]; exact (gd.mod c).choose_spec
theorem modV_bad {l : List It} (h : ¬ Good l) (c : Int) : modV l c = c := by unfold modV; rw [dif_neg h]
theorem Mod.still {l : List It} {m r : Int} (h : Mod l m r) (h2 : bst l m l.length < 0) : r = m := by
  cases h with
  | stop h => rfl
  | go e _ => omega
theorem modV_twice (l : List It) (c : Int) : modV l (modV l c) = modV l c := by
  by_cases gd : Good l
  · exact (gd.modV (modV l c)).still (gd.modV c).fix
  · rw [modV_bad gd, modV_bad gd]
theorem ref_modV (l : List It) (c : Int) : Ev (fun k => casementref17_Modal.f k l c) (modV l c) := by
  by_cases gd : Good l
  · exact ref_modal l gd gd.sh (gd.modV c)
  · rw [modV_bad gd]
    refine Ev.step (fun _ => by rw [casementref17_Modal.f]) ?_
    exact Ev.bind (ref_check l) (Ev.neg (fun h => gd ((chkV_zero l).1 h)) (Ev.fin rfl))
theorem prog_modV (l : List It) (hw : ∀ x ∈ l, wfIt x) (c : Int) : Ev (fun k => focus_Modal.f k l c) (modV l c) := by
  unfold focus_Modal.f
  refine Ev.bind (Ev.con (owners_f hw)) ?_
  by_cases gd : Good l
  · unfold ownV
    rw [if_pos gd]
    exact prog_modal_l0 l gd gd.sh (gd.modV c)
  · unfold ownV
    rw [modV_bad gd, if_neg gd]
    refine Ev.step (fun _ => by rw [focus_Modal.l0]) ?_
    refine Ev.step (fun _ => by rw [focus_Modal.l1]) ?_
    exact Ev.neg (by decide) (Ev.pos rfl (Ev.fin rfl))
theorem awake_ev : Ev (fun k => casementlaw17_awake.f k) true := Ev.of (k := 60) (fun k => casementlaw17_awake.mono k) (by decide +kernel)
theorem wf_good {x : It} (h : good35 x) : wfIt x := by
  obtain ⟨a, b, c, _, d, e⟩ := h
  exact ⟨a, b, c, d, e⟩
end Go.Proofs.Ytljnhnkdcpinhaa.G
