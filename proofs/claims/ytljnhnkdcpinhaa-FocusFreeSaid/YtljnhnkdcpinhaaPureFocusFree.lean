/-
  FocusFree: for every list of things, every list of times and every client that goes the law's function answers true: who is told has no modal one of its own, and is one of the things. No conditions beyond the statement's own.
-/
import Derived.Test.YtljnhnkdcpinhaaFAfter
import Derived.Test.YtljnhnkdcpinhaaQFocusFree
namespace Go.Proofs.Ytljnhnkdcpinhaa.Pure
open Go.RowKit Go.Proofs.Ytljnhnkdcpinhaa.P Go.Proofs.Ytljnhnkdcpinhaa.G Go.Proofs.Ytljnhnkdcpinhaa.E Go.Proofs.Ytljnhnkdcpinhaa.O Go.Proofs.YtljnhnkdcpinhaaW.PrintWords Go.Proofs.YtljnhnkdcpinhaaW.PrintLast
set_option linter.unusedVariables false

def In (l : List It) (c : Int) : Prop := ∃ x ∈ l, x.f0 = c
theorem in_at {l : List It} {i : Nat} (h : i < l.length) : In l (rdI l (i : Int)).f0 := ⟨l[i], List.getElem_mem h, by rw [rdI_at h]⟩
theorem place_in {l : List It} {c : Int} (h : In l c) : ∃ j : Nat, idxF l c 0 = (j : Int) ∧ j < l.length ∧ (rdI l (j : Int)).f0 = c := by
  obtain ⟨x, hx, e⟩ := h
  obtain ⟨i, hi, rfl⟩ := List.getElem_of_mem hx
  cases e2 : pl l c with
  | none => exact absurd (by rw [rdI_at hi]; exact e) (pl_none e2 hi)
  | some j =>
    refine ⟨j, ?_, pl_some e2⟩
    rw [idxF_pl, e2]; show (0 : Int) + (j : Int) = j; omega
theorem modV_in {l : List It} (gd : G.Good l) {c : Int} (h : In l c) : In l (modV l c) := by
  rcases (gd.modV c).kind with e | ⟨b, h1, h2, _⟩
  · rw [e]; exact h
  · rw [← h2]; exact in_at h1
theorem chV_in {l : List It} {seen : List Int} (gd : G.Good l) (h : seen.length = l.length) (h0 : l.length ≠ 0) : In l (chV l seen) := by
  rw [chV_pos gd h h0]
  exact modV_in gd (in_at ((bs_le seen l.length).2 (by omega)))
theorem chV_mod {l : List It} {seen : List Int} (gd : G.Good l) (h : seen.length = l.length) (h0 : l.length ≠ 0) : modV l (chV l seen) = chV l seen := by
  rw [chV_pos gd h h0, modV_twice]
theorem free_none {l : List It} (gd : G.Good l) {a : Int} (ha : modV l a = a) (hp : 1 ≤ a) {i : Nat} (hi : i < l.length) (h3 : (rdI l (i : Int)).f3 = true) : rd (ownS l) (i : Int) ≠ a := by
  intro e
  have hf := (gd.modV a).fix
  rw [ha] at hf
  cases hg : Gr l i with
  | none => rw [ownS_none hi hg] at e; omega
  | some j => exact bst_no l a l.length hf i hi h3 (ownC_now hg (by rw [← (gd.ownS_some hi hg).2.1]; exact e))
theorem rs_len {α : Type} {l : List α} {k : Nat} (h : k < l.length) : (rs l k).length = l.length - 1 := by unfold rs; simp; omega
theorem rs_sub {α : Type} (l : List α) (k : Nat) : (rs l k).Sublist l := by
  unfold rs
  rw [← List.eraseIdx_eq_take_drop_succ]
  exact List.eraseIdx_sublist l k
theorem good_rs {l : List It} (gd : G.Good l) (k : Nat) : G.Good (rs l k) :=
  ⟨Nat.le_trans (rs_sub l k).length_le gd.len, fun x hx => gd.ok x ((rs_sub l k).subset hx), ((rs_sub l k).map _).nodup gd.nd⟩
theorem rs_ne {l : List It} (gd : G.Good l) {k : Nat} (hk : k < l.length) {c : Int} (h : In (rs l k) c) : In l c ∧ c ≠ (rdI l (k : Int)).f0 := by
  obtain ⟨x, hx, rfl⟩ := h
  refine ⟨⟨x, (rs_sub l k).subset hx, rfl⟩, ?_⟩
  intro e
  unfold rs at hx
  rcases List.mem_append.1 hx with h | h
  · obtain ⟨i, hi, rfl⟩ := List.getElem_of_mem h
    have hi2 : i < k := by simp at hi; omega
    rw [List.getElem_take, ← rdI_at (by omega)] at e
    have := gd.inj (by omega) hk e
    omega
  · obtain ⟨i, hi, rfl⟩ := List.getElem_of_mem h
    have hi2 : k + 1 + i < l.length := by simp at hi; omega
    rw [List.getElem_drop, ← rdI_at hi2] at e
    have := gd.inj hi2 hk e
    omega
theorem rs_in {l : List It} {k j : Nat} (hk : k < l.length) (hj : j < l.length) (hne : j ≠ k) : In (rs l k) (rdI l (j : Int)).f0 := by
  refine ⟨l[j], ?_, by rw [rdI_at hj]⟩
  unfold rs
  rw [List.mem_append]
  rcases Nat.lt_or_ge j k with h | h
  · left
    rw [List.mem_take_iff_getElem]
    exact ⟨j, by omega, rfl⟩
  · right
    rw [List.mem_drop_iff_getElem]
    exact ⟨j - (k + 1), by omega, by congr 1; omega⟩
/-- who is told when one goes -/
theorem af_in {l : List It} {seen : List Int} {gone : Int} (gd : G.Good l) (h : seen.length = l.length) (h0 : l.length ≠ 0) (h1 : ¬ (l.length = 1 ∧ (rdI l 0).f0 = gone)) : In l (afV l seen gone) ∧ afV l seen gone ≠ gone := by
  rw [afV_good gone gd h]
  cases e : pl l gone with
  | none =>
    have hi := chV_in gd h h0
    refine ⟨hi, ?_⟩
    intro e2
    have e2' : chV l seen = gone := e2
    rw [e2'] at hi
    obtain ⟨j, _, h2, h3⟩ := place_in hi
    exact pl_none e h2 h3
  | some k =>
    obtain ⟨hk, hkg⟩ := pl_some e
    have key : ∀ c, In (rs l k) c → In l c ∧ c ≠ gone := fun c hc => by have := rs_ne gd hk hc; rw [hkg] at this; exact this
    show In l (if rd (ownS l) (k : Int) = 0 then chV (rs l k) (rs seen k) else modV (rs l k) (rd (ownS l) (k : Int))) ∧ (if rd (ownS l) (k : Int) = 0 then chV (rs l k) (rs seen k) else modV (rs l k) (rd (ownS l) (k : Int))) ≠ gone
    have hl1 := rs_len hk
    have hl2 := rs_len (l := seen) (k := k) (by omega)
    by_cases hz : rd (ownS l) (k : Int) = 0
    · rw [if_pos hz]
      have hn1 : l.length ≠ 1 := by
        intro h2
        refine h1 ⟨h2, ?_⟩
        have : k = 0 := by omega
        subst this
        exact hkg
      exact key _ (chV_in (good_rs gd k) (by omega) (by omega))
    · rw [if_neg hz]
      cases hg : Gr l k with
      | none => exact absurd (ownS_none hk hg) hz
      | some j =>
        obtain ⟨a1, a2, a3, a4, a5⟩ := nx_some (Gr_nx hg)
        refine key _ (modV_in (good_rs gd k) ?_)
        rw [(gd.ownS_some hk hg).2.1]
        exact rs_in hk a2 a3
theorem af_one {l : List It} {seen : List Int} {gone : Int} (gd : G.Good l) (h : seen.length = l.length) (h1 : l.length = 1) (h2 : (rdI l 0).f0 = gone) : afV l seen gone = 0 := by
  rw [afV_good gone gd h, ← h2, show (0 : Int) = ((0 : Nat) : Int) from rfl, gd.pl_at (by omega)]
  have hz : rd (ownS l) ((0 : Nat) : Int) = 0 := by
    cases hg : Gr l 0 with
    | none => exact ownS_none (by omega) hg
    | some j =>
      obtain ⟨a1, a2, a3, _⟩ := nx_some (Gr_nx hg)
      omega
  show (if rd (ownS l) ((0 : Nat) : Int) = 0 then chV (rs l 0) (rs seen 0) else modV (rs l 0) (rd (ownS l) ((0 : Nat) : Int))) = _
  rw [if_pos hz, chV_neg]
  · rfl
  · rintro ⟨_, _, h3⟩
    exact h3 (by rw [rs_len (by omega), h1])

theorem free_end (l : List It) (seen : List Int) (gone : Int) (gd : G.Good l) (hw : ∀ x ∈ l, wfIt x) (h : seen.length = l.length) (h0 : l.length ≠ 0) :
    Ev (fun k => (focus_After.f k l seen gone).bind fun t275 => (if (l.length : Int) = 1 then (if 0 < (l.length : Int) then (casementlaw17_FocusFree.j3 k l gone t275 (((rdI l 0).f0) == gone)) else (none)) else (casementlaw17_FocusFree.j3 k l gone t275 false))) true := by
  refine Ev.bind (prog_afV l seen gone hw) ?_
  have yes : l.length = 1 → (rdI l 0).f0 = gone → Ev (fun k => casementlaw17_FocusFree.j3 k l gone (afV l seen gone) true) true := by
    intro h1 h2
    refine Ev.step (fun _ => by rw [casementlaw17_FocusFree.j3]) ?_
    exact Ev.pos rfl (Ev.pos (af_one gd h h1 h2) (Ev.bind awake_ev (Ev.fin rfl)))
  have no : ¬ (l.length = 1 ∧ (rdI l 0).f0 = gone) → Ev (fun k => casementlaw17_FocusFree.j3 k l gone (afV l seen gone) false) true := by
    intro h1
    obtain ⟨hi, hne⟩ := af_in gd h h0 h1
    obtain ⟨j, hj, _⟩ := place_in hi
    refine Ev.step (fun _ => by rw [casementlaw17_FocusFree.j3]) ?_
    refine Ev.neg (by decide) (Ev.neg hne (Ev.bind (ref_place l _ gd.sh) ?_))
    rw [hj]
    exact Ev.pos (by omega) (Ev.bind awake_ev (Ev.fin rfl))
  by_cases h1 : l.length = 1
  · refine Ev.pos (by omega) (Ev.pos (by omega) ?_)
    by_cases h2 : (rdI l 0).f0 = gone
    · rw [show ((rdI l 0).f0 == gone) = true by simp [h2]]; exact yes h1 h2
    · rw [show ((rdI l 0).f0 == gone) = false by simpa using h2]; exact no (fun x => h2 x.2)
  · exact Ev.neg (by omega) (no (fun x => h1 x.1))
theorem free_go (l : List It) (seen : List Int) (gone a : Int) (gd : G.Good l) (hw : ∀ x ∈ l, wfIt x) (h : seen.length = l.length) (h0 : l.length ≠ 0) (ha : modV l a = a) (hp : 1 ≤ a) :
    ∀ (d i : Nat), i + d = l.length → Ev (fun k => casementlaw17_FocusFree.l0 k l seen gone a (ownS l) (i : Int)) true := by
  have hlen := gd.len
  intro d
  induction d with
  | zero =>
    intro i hi
    refine Ev.step (fun _ => by rw [casementlaw17_FocusFree.l0]) ?_
    exact Ev.neg (by omega) (free_end l seen gone gd hw h h0)
  | succ d ih =>
    intro i hi
    have hil : i < l.length := by omega
    have hgo := ih (i + 1) (by omega)
    refine Ev.step (fun _ => by rw [casementlaw17_FocusFree.l0]) ?_
    rw [wadd1 (by omega)]
    refine Ev.pos (by omega) (Ev.pos (by omega) ?_)
    by_cases h3 : (rdI l (i : Int)).f3 = true
    · exact Ev.pos h3 (Ev.pos (by rw [ownS_len]; omega) (Ev.neg (free_none gd ha hp hil h3) hgo))
    · exact Ev.neg h3 hgo
theorem FocusFree : casementlaw17_FocusFree.Pure := by
  intro l seen gone _ hg _ _ _
  have hw : ∀ x ∈ l, wfIt x := fun x hx => wf_good (hg x hx)
  have no : Ev (fun k => casementlaw17_FocusFree.j0 k l seen gone true) true := by
    refine Ev.step (fun _ => by rw [casementlaw17_FocusFree.j0]) ?_
    exact Ev.pos rfl (Ev.bind awake_ev (Ev.fin rfl))
  refine Ev.rounds (g := fun k => casementlaw17_FocusFree.f k l seen gone) ?_
  unfold casementlaw17_FocusFree.f
  by_cases h60 : (l.length : Int) > 60
  · exact Ev.pos h60 no
  refine Ev.neg h60 (Ev.bind (Ev.con (check_f hw)) ?_)
  by_cases gd : G.Good l
  · refine Ev.pos ((chkV_zero l).2 gd) ?_
    by_cases h : seen.length = l.length
    · rw [show ((seen.length : Int) != (l.length : Int)) = false by simp [h]]
      refine Ev.step (fun _ => by rw [casementlaw17_FocusFree.j0]) ?_
      refine Ev.neg (by decide) (Ev.bind (prog_chV l seen hw) ?_)
      by_cases h0 : l.length = 0
      · refine Ev.pos (by omega) (Ev.pos (chV_neg (fun x => x.2.2 h0)) (Ev.bind awake_ev (Ev.fin rfl)))
      · have hi := chV_in gd h h0
        have hm := chV_mod gd h h0
        obtain ⟨j, hj, hjl, hjc⟩ := place_in hi
        have hp : 1 ≤ chV l seen := by rw [← hjc]; exact (gd.okAt hjl).1
        refine Ev.neg (by omega) (Ev.bind (ref_place l _ gd.sh) ?_)
        rw [hj]
        refine Ev.neg (by omega) (Ev.bind (prog_modV l hw _) ?_)
        rw [hm, show (chV l seen != chV l seen) = false by simp]
        refine Ev.step (fun _ => by rw [casementlaw17_FocusFree.j1]) ?_
        refine Ev.neg (by decide) (Ev.bind (Ev.con (owners_f hw)) ?_)
        rw [show ownV l = ownS l by unfold ownV; rw [if_pos gd]]
        exact free_go l seen gone _ gd hw h h0 hm hp l.length 0 (by omega)
    · rw [show ((seen.length : Int) != (l.length : Int)) = true by simp; omega]; exact no
  · exact Ev.neg (fun h => gd ((chkV_zero l).1 h)) no
end Go.Proofs.Ytljnhnkdcpinhaa.Pure
