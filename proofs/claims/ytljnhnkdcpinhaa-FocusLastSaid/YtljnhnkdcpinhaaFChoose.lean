/-
  Who has the focus of any things, by when each was seen: what the given program's Choose and the document's Choose compute. Plain Lean.
-/
import Derived.Test.YtljnhnkdcpinhaaFMod
import Derived.Test.YtljnhnkdcpinhaaPx7
namespace Go.Proofs.Ytljnhnkdcpinhaa.G
open Go.Proofs.Ytljnhnkdcpinhaa.P Go.Proofs.Ytljnhnkdcpinhaa.E Go.Proofs.Ytljnhnkdcpinhaa.O Go.RowKit Go.Proofs.YtljnhnkdcpinhaaW.PrintWords Go.Proofs.YtljnhnkdcpinhaaW.PrintLast
set_option linter.unusedVariables false
set_option linter.unusedSimpArgs false

def bs (seen : List Int) : Nat → Nat
  | 0 => 0
  | i + 1 => if rd seen (i : Int) > rd seen ((bs seen i : Nat) : Int) then i else bs seen i
theorem bs_le (seen : List Int) : ∀ i, bs seen i ≤ i ∧ (0 < i → bs seen i < i) := by
  intro i
  induction i with
  | zero => exact ⟨Nat.le_refl _, fun h => h⟩
  | succ i ih => rw [bs]; split <;> omega
theorem bs_one (seen : List Int) : bs seen 1 = 0 := by rw [bs, bs]; split <;> rfl
open Classical in
noncomputable def chV (l : List It) (seen : List Int) : Int := if Good l ∧ seen.length = l.length ∧ l.length ≠ 0 then modV l (rdI l ((bs seen l.length : Nat) : Int)).f0 else 0
theorem chV_pos {l : List It} {seen : List Int} (gd : Good l) (h : seen.length = l.length) (h0 : l.length ≠ 0) : chV l seen = modV l (rdI l ((bs seen l.length : Nat) : Int)).f0 := by
  unfold chV; rw [if_pos ⟨gd, h, h0⟩]
theorem chV_neg {l : List It} {seen : List Int} (h : ¬ (Good l ∧ seen.length = l.length ∧ l.length ≠ 0)) : chV l seen = 0 := by
  unfold chV; rw [if_neg h]
theorem prog_choose_go (l : List It) (seen : List Int) (hw : ∀ x ∈ l, wfIt x) (gd : Good l) (h : seen.length = l.length) (h0 : l.length ≠ 0) :
    ∀ (d i : Nat), i + d = l.length → Ev (fun k => focus_Choose.l0 k l seen ((bs seen i : Nat) : Int) seen (seen.length : Int) (i : Int)) (modV l (rdI l ((bs seen l.length : Nat) : Int)).f0) := by
  have hlen := gd.len
  intro d
  induction d with
  | zero =>
    intro i hi
    obtain rfl : i = l.length := by omega
    have hb := (bs_le seen l.length).2 (by omega)
    refine Ev.step (fun _ => by rw [focus_Choose.l0]) ?_
    exact Ev.neg (by omega) (Ev.pos (by omega) (Ev.pos (by omega) (Ev.bind (prog_modV l hw _) (Ev.fin rfl))))
  | succ d ih =>
    intro i hi
    have hgo := ih (i + 1) (by omega)
    rw [bs] at hgo
    have hb := bs_le seen i
    refine Ev.step (fun _ => by rw [focus_Choose.l0]) ?_
    rw [wadd1 (by omega)]
    refine Ev.pos (by omega) (Ev.pos (by omega) (Ev.pos (by omega) (Ev.pos (by omega) (Ev.pos (by omega) ?_))))
    by_cases hc : rd seen (i : Int) > rd seen ((bs seen i : Nat) : Int)
    · rw [if_pos hc] at hgo; exact Ev.pos hc hgo
    · rw [if_neg hc] at hgo; exact Ev.neg hc hgo
theorem ref_choose_go (l : List It) (seen : List Int) (gd : Good l) (h : seen.length = l.length) (h0 : l.length ≠ 0) :
    ∀ (d i : Nat), 0 < i → i + d = l.length → Ev (fun k => casementref17_Choose.l0 k l seen ((bs seen i : Nat) : Int) (i : Int)) (modV l (rdI l ((bs seen l.length : Nat) : Int)).f0) := by
  have hlen := gd.len
  intro d
  induction d with
  | zero =>
    intro i hp hi
    obtain rfl : i = l.length := by omega
    have hb := (bs_le seen l.length).2 (by omega)
    refine Ev.step (fun _ => by rw [casementref17_Choose.l0]) ?_
    exact Ev.neg (by omega) (Ev.pos (by omega) (Ev.pos (by omega) (Ev.bind (ref_modV l _) (Ev.fin rfl))))
  | succ d ih =>
    intro i hp hi
    have hgo := ih (i + 1) (by omega) (by omega)
    rw [bs] at hgo
    have hb := bs_le seen i
    refine Ev.step (fun _ => by rw [casementref17_Choose.l0]) ?_
    rw [wadd1 (by omega)]
    refine Ev.pos (by omega) (Ev.pos (by omega) (Ev.pos (by omega) (Ev.pos (by omega) (Ev.pos (by omega) ?_))))
    by_cases hc : rd seen (i : Int) > rd seen ((bs seen i : Nat) : Int)
    · rw [if_pos hc] at hgo; exact Ev.pos hc hgo
    · rw [if_neg hc] at hgo; exact Ev.neg hc hgo
theorem prog_chV (l : List It) (seen : List Int) (hw : ∀ x ∈ l, wfIt x) : Ev (fun k => focus_Choose.f k l seen) (chV l seen) := by
  unfold focus_Choose.f
  refine Ev.bind (Ev.con (check_f hw)) ?_
  have no : ¬ (Good l ∧ seen.length = l.length ∧ l.length ≠ 0) → Ev (fun k => focus_Choose.j0 k l seen true) (chV l seen) := by
    intro h
    refine Ev.step (fun _ => by rw [focus_Choose.j0]) ?_
    exact Ev.pos rfl (Ev.fin (chV_neg h).symm)
  by_cases gd : Good l
  · refine Ev.pos ((chkV_zero l).2 gd) ?_
    by_cases h : seen.length = l.length
    · refine Ev.pos (by omega) ?_
      by_cases h0 : l.length = 0
      · rw [show ((l.length : Int) == 0) = true by simp [h0]]
        exact no (fun x => x.2.2 h0)
      · rw [show ((l.length : Int) == 0) = false by simpa using h0, chV_pos gd h h0]
        refine Ev.step (fun _ => by rw [focus_Choose.j0]) ?_
        exact Ev.neg (by decide) (prog_choose_go l seen hw gd h h0 l.length 0 (by omega))
    · exact Ev.neg (by omega) (no (fun x => h x.2.1))
  · exact Ev.neg (fun h => gd ((chkV_zero l).1 h)) (no (fun x => gd x.1))
theorem ref_chV (l : List It) (seen : List Int) : Ev (fun k => casementref17_Choose.f k l seen) (chV l seen) := by
  unfold casementref17_Choose.f
  refine Ev.bind (ref_check l) ?_
  have no : ¬ (Good l ∧ seen.length = l.length ∧ l.length ≠ 0) → Ev (fun k => casementref17_Choose.j0 k l seen true) (chV l seen) := by
    intro h
    refine Ev.step (fun _ => by rw [casementref17_Choose.j0]) ?_
    exact Ev.pos rfl (Ev.fin (chV_neg h).symm)
  by_cases gd : Good l
  · refine Ev.pos ((chkV_zero l).2 gd) ?_
    by_cases h0 : l.length = 0
    · exact Ev.pos (by omega) (no (fun x => x.2.2 h0))
    · refine Ev.neg (by omega) ?_
      by_cases h : seen.length = l.length
      · rw [show ((seen.length : Int) != (l.length : Int)) = false by simp [h], chV_pos gd h h0]
        refine Ev.step (fun _ => by rw [casementref17_Choose.j0]) ?_
        refine Ev.neg (by decide) ?_
        have := ref_choose_go l seen gd h h0 (l.length - 1) 1 (by omega) (by omega)
        rw [bs_one] at this
        exact this
      · rw [show ((seen.length : Int) != (l.length : Int)) = true by simp; omega]
        exact no (fun x => h x.2.1)
  · exact Ev.neg (fun h => gd ((chkV_zero l).1 h)) (no (fun x => gd x.1))
end Go.Proofs.Ytljnhnkdcpinhaa.G
