/-
  Who has the focus when any client goes: what the given program's After computes. Plain Lean.
-/
import Derived.Test.YtljnhnkdcpinhaaFChoose
namespace Go.Proofs.Ytljnhnkdcpinhaa.G
open Go.Proofs.Ytljnhnkdcpinhaa.P Go.Proofs.Ytljnhnkdcpinhaa.E Go.Proofs.Ytljnhnkdcpinhaa.O Go.RowKit Go.Proofs.YtljnhnkdcpinhaaW.PrintWords Go.Proofs.YtljnhnkdcpinhaaW.PrintLast
set_option linter.unusedVariables false
set_option linter.unusedSimpArgs false

def rs {α : Type} (l : List α) (k : Nat) : List α := l.take k ++ l.drop (k + 1)
open Classical in
noncomputable def afV (l : List It) (seen : List Int) (gone : Int) : Int :=
  if Good l ∧ seen.length = l.length then
    match pl l gone with
    | none => chV l seen
    | some k => if rd (ownS l) (k : Int) = 0 then chV (rs l k) (rs seen k) else modV (rs l k) (rd (ownS l) (k : Int))
  else 0
theorem take_rdI {l : List It} {i : Nat} (h : i < l.length) : l.take i ++ [rdI l (i : Int)] = l.take (i + 1) := by
  rw [List.take_succ_eq_append_getElem h, rdI_at h]
theorem drop_rdI {l : List It} {i : Nat} (h : i < l.length) (a : List It) : (a ++ [rdI l (i : Int)]) ++ l.drop (i + 1) = a ++ l.drop i := by
  rw [List.drop_eq_getElem_cons h, rdI_at h, List.append_assoc]; rfl
theorem drop_rd {l : List Int} {i : Nat} (h : i < l.length) (a : List Int) : (a ++ [rd l (i : Int)]) ++ l.drop (i + 1) = a ++ l.drop i := by
  have e : rd l (i : Int) = l[i] := by
    unfold rd
    rw [Int.toNat_natCast, List.getD_eq_getElem?_getD, List.getElem?_eq_getElem h]; rfl
  rw [List.drop_eq_getElem_cons h, e, List.append_assoc]; rfl
/-- the end of a walk -/
theorem prog_after_end (l : List It) (seen os : List Int) (gone : Int) (ow : Int) (hl : l.length ≤ 128) (hs : seen.length = l.length) (ho : os.length = l.length) (hw : ∀ x ∈ l, wfIt x) :
    ∀ (d i : Nat) (a : List It) (b : List Int), i + d = l.length → a.length ≤ i → b.length ≤ i → (∀ x ∈ a, wfIt x) → (∀ j : Nat, i ≤ j → j < l.length → (rdI l (j : Int)).f0 ≠ gone) →
    Ev (fun k => focus_After.l0 k seen gone ow a b os l (l.length : Int) (i : Int)) (if ow = 0 then chV (a ++ l.drop i) (b ++ seen.drop i) else modV (a ++ l.drop i) ow) := by
  intro d
  induction d with
  | zero =>
    intro i a b hi ha hb hwa hne
    obtain rfl : i = l.length := by omega
    refine Ev.step (fun _ => by rw [focus_After.l0]) ?_
    refine Ev.neg (by omega) ?_
    rw [List.drop_length, List.append_nil, ← hs, List.drop_length, List.append_nil]
    by_cases h : ow = 0
    · rw [if_pos h]; exact Ev.pos h (Ev.bind (prog_chV a b hwa) (Ev.fin rfl))
    · rw [if_neg h]; exact Ev.neg h (Ev.bind (prog_modV a hwa ow) (Ev.fin rfl))
  | succ d ih =>
    intro i a b hi ha hb hwa hne
    have hil : i < l.length := by omega
    have hgo := ih (i + 1) (a ++ [rdI l (i : Int)]) (b ++ [rd seen (i : Int)]) (by omega) (by simp; omega) (by simp; omega) (by
      intro x hx
      rcases List.mem_append.1 hx with hx | hx
      · exact hwa x hx
      · rw [List.mem_singleton] at hx; subst hx
        rw [rdI_at hil]; exact hw _ (List.getElem_mem hil)) (fun j h1 h2 => hne j (by omega) h2)
    rw [drop_rdI hil, drop_rd (by omega)] at hgo
    refine Ev.step (fun _ => by rw [focus_After.l0]) ?_
    rw [wadd1 (by omega)]
    exact Ev.pos (by omega) (Ev.pos (by omega) (Ev.pos (by omega) (Ev.neg (hne i (Nat.le_refl _) hil) (Ev.pos (by omega) (Ev.pos (by omega) (Ev.pos (by omega) hgo))))))
/-- up to who goes -/
theorem prog_after_to (l : List It) (seen os : List Int) (gone : Int) (gd : Good l) (hs : seen.length = l.length) (ho : os.length = l.length) (hw : ∀ x ∈ l, wfIt x) {p : Nat} (hp : p < l.length) (hpg : (rdI l (p : Int)).f0 = gone) :
    ∀ (d i : Nat), i + d = p →
    Ev (fun k => focus_After.l0 k seen gone 0 (l.take i) (seen.take i) os l (l.length : Int) (i : Int)) (if rd os (p : Int) = 0 then chV (rs l p) (rs seen p) else modV (rs l p) (rd os (p : Int))) := by
  have hl := gd.len
  intro d
  induction d with
  | zero =>
    intro i hi
    obtain rfl : i = p := by omega
    refine Ev.step (fun _ => by rw [focus_After.l0]) ?_
    rw [wadd1 (by omega)]
    refine Ev.pos (by omega) (Ev.pos (by omega) (Ev.pos (by omega) (Ev.pos hpg (Ev.pos (by omega) ?_))))
    refine prog_after_end l seen os gone _ hl hs ho hw (l.length - (i + 1)) (i + 1) (l.take i) (seen.take i) (by omega) (by simp; omega) (by simp; omega) (fun x hx => hw x (List.mem_of_mem_take hx)) ?_
    intro j h1 h2 h3
    have := gd.inj h2 hp (h3.trans hpg.symm)
    omega
  | succ d ih =>
    intro i hi
    have hil : i < l.length := by omega
    have hgo := ih (i + 1) (by omega)
    rw [← take_rdI hil, ← take_rd (by omega)] at hgo
    have hne : (rdI l (i : Int)).f0 ≠ gone := by
      intro h
      have := gd.inj hil hp (h.trans hpg.symm)
      omega
    have l1 : (l.take i).length < 2932031007402 := by simp; omega
    have l2 : (seen.take i).length < 17592186044416 := by simp; omega
    refine Ev.step (fun _ => by rw [focus_After.l0]) ?_
    rw [wadd1 (by omega)]
    exact Ev.pos (by omega) (Ev.pos (by omega) (Ev.pos (by omega) (Ev.neg hne (Ev.pos l1 (Ev.pos (by omega) (Ev.pos l2 hgo))))))
theorem afV_good {l : List It} {seen : List Int} (gone : Int) (gd : Good l) (h : seen.length = l.length) : afV l seen gone = match pl l gone with
    | none => chV l seen
    | some k => if rd (ownS l) (k : Int) = 0 then chV (rs l k) (rs seen k) else modV (rs l k) (rd (ownS l) (k : Int)) := by
  unfold afV; rw [if_pos ⟨gd, h⟩]
theorem afV_bad {l : List It} {seen : List Int} (gone : Int) (h : ¬ (Good l ∧ seen.length = l.length)) : afV l seen gone = 0 := by
  unfold afV; rw [if_neg h]
theorem prog_afV (l : List It) (seen : List Int) (gone : Int) (hw : ∀ x ∈ l, wfIt x) : Ev (fun k => focus_After.f k l seen gone) (afV l seen gone) := by
  unfold focus_After.f
  refine Ev.bind (Ev.con (check_f hw)) ?_
  have no : ¬ (Good l ∧ seen.length = l.length) → Ev (fun k => focus_After.j0 k l seen gone true) (afV l seen gone) := by
    intro h
    refine Ev.step (fun _ => by rw [focus_After.j0]) ?_
    exact Ev.pos rfl (Ev.fin (afV_bad gone h).symm)
  by_cases gd : Good l
  · refine Ev.pos ((chkV_zero l).2 gd) ?_
    by_cases h : seen.length = l.length
    · rw [show ((seen.length : Int) != (l.length : Int)) = false by simp [h], afV_good gone gd h]
      refine Ev.step (fun _ => by rw [focus_After.j0]) ?_
      refine Ev.neg (by decide) (Ev.bind (Ev.con (owners_f hw)) ?_)
      rw [show ownV l = ownS l by unfold ownV; rw [if_pos gd]]
      cases e : pl l gone with
      | none =>
        have := prog_after_end l seen (ownS l) gone 0 gd.len h (ownS_len l) hw l.length 0 [] [] (by omega) (by simp) (by simp) (by simp) (fun j _ h2 => pl_none e h2)
        exact this
      | some p =>
        obtain ⟨h1, h2⟩ := pl_some e
        exact prog_after_to l seen (ownS l) gone gd h (ownS_len l) hw h1 h2 p 0 (by omega)
    · rw [show ((seen.length : Int) != (l.length : Int)) = true by simp; omega]
      exact no (fun x => h x.2)
  · exact Ev.neg (fun h => gd ((chkV_zero l).1 h)) (no (fun x => gd x.1))
end Go.Proofs.Ytljnhnkdcpinhaa.G
