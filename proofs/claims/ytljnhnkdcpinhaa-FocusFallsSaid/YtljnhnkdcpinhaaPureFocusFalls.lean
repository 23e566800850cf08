/-
  FocusFalls: for every list of things, every list of times and every client that goes the law's function answers true. No conditions beyond the statement's own.
-/
import Derived.Test.YtljnhnkdcpinhaaFAfter
import Derived.Test.YtljnhnkdcpinhaaQFocusFalls
namespace Go.Proofs.Ytljnhnkdcpinhaa.Pure
open Go.RowKit Go.Proofs.Ytljnhnkdcpinhaa.P Go.Proofs.Ytljnhnkdcpinhaa.G Go.Proofs.Ytljnhnkdcpinhaa.E Go.Proofs.Ytljnhnkdcpinhaa.O Go.Proofs.YtljnhnkdcpinhaaW.PrintWords Go.Proofs.YtljnhnkdcpinhaaW.PrintLast
set_option linter.unusedVariables false

theorem ref_afV (l : List It) (seen : List Int) (gone : Int) : Ev (fun k => casementref17_After.f k l seen gone) (afV l seen gone) := by
  unfold casementref17_After.f
  refine Ev.bind (ref_check l) ?_
  have no : ¬ (G.Good l ∧ seen.length = l.length) → Ev (fun k => casementref17_After.j0 k l seen gone true) (afV l seen gone) := by
    intro h
    refine Ev.step (fun _ => by rw [casementref17_After.j0]) ?_
    exact Ev.pos rfl (Ev.fin (afV_bad gone h).symm)
  by_cases gd : G.Good l
  · refine Ev.pos ((chkV_zero l).2 gd) ?_
    by_cases h : seen.length = l.length
    · rw [show ((seen.length : Int) != (l.length : Int)) = false by simp [h], afV_good gone gd h]
      refine Ev.step (fun _ => by rw [casementref17_After.j0]) ?_
      refine Ev.neg (by decide) (Ev.bind (ref_place l gone gd.sh) ?_)
      cases e : pl l gone with
      | none =>
        have hp : idxF l gone 0 = -1 := by rw [idxF_pl, e]
        rw [hp]
        exact Ev.pos (by decide) (Ev.bind (ref_chV l seen) (Ev.fin rfl))
      | some p =>
        obtain ⟨h1, h2⟩ := pl_some e
        have hp : idxF l gone 0 = (p : Int) := by rw [idxF_pl, e]; show (0 : Int) + (p : Int) = p; omega
        have hlen := gd.len
        have hov : ownV l = ownS l := by unfold ownV; rw [if_pos gd]
        have hol := ownS_len l
        have hwr : wrap64 ((p : Int) + 1) = ((p + 1 : Nat) : Int) := wadd1 (by omega)
        rw [hp, hwr]
        refine Ev.neg (by omega) (Ev.bind (ref_owners l) ?_)
        rw [hov]
        simp only [Int.toNat_natCast]
        refine Ev.pos (by omega) (Ev.pos (by omega) (Ev.bind (Ev.fin rfl) (Ev.pos (by omega) (Ev.bind (Ev.fin rfl) (Ev.pos ?_ (Ev.bind (Ev.fin rfl) (Ev.pos (by omega) (Ev.pos (by omega) (Ev.bind (Ev.fin rfl) (Ev.pos ?_ (Ev.bind (Ev.fin rfl) (Ev.bind (Ev.fin rfl) (Ev.pos (by omega) (Ev.pos ?_ (Ev.bind (Ev.fin rfl) (Ev.pos (by omega) (Ev.pos ?_ ?_)))))))))))))))))
        · simp; omega
        · simp; omega
        · simp; omega
        · simp; omega
        · show Ev _ (if rd (ownS l) (p : Int) = 0 then chV (rs l p) (rs seen p) else modV (rs l p) (rd (ownS l) (p : Int)))
          by_cases h0 : rd (ownS l) (p : Int) = 0
          · rw [if_pos h0]; exact Ev.pos h0 (Ev.bind (ref_chV (rs l p) (rs seen p)) (Ev.fin rfl))
          · rw [if_neg h0]; exact Ev.neg h0 (Ev.bind (ref_modV (rs l p) _) (Ev.fin rfl))
    · rw [show ((seen.length : Int) != (l.length : Int)) = true by simp; omega]
      exact no (fun x => h x.2)
  · exact Ev.neg (fun h => gd ((chkV_zero l).1 h)) (no (fun x => gd x.1))

theorem FocusFalls : casementlaw17_FocusFalls.Pure := by
  intro l seen gone _ hg _ _ _
  have hw : ∀ x ∈ l, wfIt x := fun x hx => wf_good (hg x hx)
  have main : ∀ b : Bool, Ev (fun k => casementlaw17_FocusFalls.j0 k l seen gone b) true := by
    intro b
    refine Ev.step (fun _ => by rw [casementlaw17_FocusFalls.j0]) ?_
    cases b with
    | true => exact Ev.pos rfl (Ev.bind awake_ev (Ev.fin rfl))
    | false =>
      refine Ev.neg (by decide) (Ev.bind (prog_afV l seen gone hw) (Ev.bind (ref_afV l seen gone) ?_))
      exact Ev.pos rfl (Ev.bind awake_ev (Ev.fin rfl))
  refine Ev.rounds (g := fun k => casementlaw17_FocusFalls.f k l seen gone) ?_
  unfold casementlaw17_FocusFalls.f
  by_cases h : (l.length : Int) > 40
  · exact Ev.pos h (main _)
  · exact Ev.neg h (main _)
end Go.Proofs.Ytljnhnkdcpinhaa.Pure
