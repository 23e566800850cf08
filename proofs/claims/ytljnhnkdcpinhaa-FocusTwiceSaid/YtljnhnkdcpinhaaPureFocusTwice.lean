/-
  FocusTwice: for every list of things and every client the law's function answers true. No conditions beyond the statement's own.
-/
import Derived.Test.YtljnhnkdcpinhaaFMod
import Derived.Test.YtljnhnkdcpinhaaQFocusTwice
namespace Go.Proofs.Ytljnhnkdcpinhaa.Pure
open Go.RowKit Go.Proofs.Ytljnhnkdcpinhaa.P Go.Proofs.Ytljnhnkdcpinhaa.G Go.Proofs.Ytljnhnkdcpinhaa.E Go.Proofs.Ytljnhnkdcpinhaa.O Go.Proofs.YtljnhnkdcpinhaaW.PrintWords Go.Proofs.YtljnhnkdcpinhaaW.PrintLast
set_option linter.unusedVariables false

theorem FocusTwice : casementlaw17_FocusTwice.Pure := by
  intro l c _ hg _
  have hw : ∀ x ∈ l, wfIt x := fun x hx => wf_good (hg x hx)
  refine Ev.rounds (g := fun k => casementlaw17_FocusTwice.f k l c) ?_
  unfold casementlaw17_FocusTwice.f
  by_cases h : (l.length : Int) > 60
  · exact Ev.pos h (Ev.bind awake_ev (Ev.fin rfl))
  refine Ev.neg h ?_
  have hs : Sh l := by show l.length ≤ 17592186044416; omega
  refine Ev.bind (prog_modV l hw c) (Ev.bind (prog_modV l hw _) ?_)
  rw [modV_twice]
  refine Ev.pos rfl ?_
  by_cases hc : modV l c = c
  · exact Ev.pos hc (Ev.bind awake_ev (Ev.fin rfl))
  refine Ev.neg hc ?_
  have gd : G.Good l := Classical.byContradiction fun h => hc (modV_bad h c)
  rcases (gd.modV c).kind with h1 | ⟨b, h1, h2, h3⟩
  · exact absurd h1 hc
  have hp : idxF l (modV l c) 0 = (b : Int) := by
    rw [idxF_pl, ← h2, gd.pl_at h1]
    show (0 : Int) + (b : Int) = b; omega
  refine Ev.bind (ref_place l _ hs) ?_
  rw [hp]
  refine Ev.pos (by omega) (Ev.bind (ref_place l _ hs) ?_)
  rw [hp]
  exact Ev.pos (by omega) (Ev.pos (by omega) (Ev.pos h3 (Ev.bind awake_ev (Ev.fin rfl))))
end Go.Proofs.Ytljnhnkdcpinhaa.Pure
