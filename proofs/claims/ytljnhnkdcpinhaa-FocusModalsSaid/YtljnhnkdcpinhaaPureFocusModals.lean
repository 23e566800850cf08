/-
  FocusModals: for every list of things and every client the law's function answers true. No conditions beyond the statement's own.
-/
import Derived.Test.YtljnhnkdcpinhaaFMod
import Derived.Test.YtljnhnkdcpinhaaQFocusModals
namespace Go.Proofs.Ytljnhnkdcpinhaa.Pure
open Go.RowKit Go.Proofs.Ytljnhnkdcpinhaa.P Go.Proofs.Ytljnhnkdcpinhaa.G Go.Proofs.Ytljnhnkdcpinhaa.E Go.Proofs.Ytljnhnkdcpinhaa.O Go.Proofs.YtljnhnkdcpinhaaW.PrintWords Go.Proofs.YtljnhnkdcpinhaaW.PrintLast
set_option linter.unusedVariables false

theorem FocusModals : casementlaw17_FocusModals.Pure := by
  intro l c _ hg _
  have hw : ∀ x ∈ l, wfIt x := fun x hx => wf_good (hg x hx)
  have main : ∀ b : Bool, Ev (fun k => casementlaw17_FocusModals.j0 k l c b) true := by
    intro b
    refine Ev.step (fun _ => by rw [casementlaw17_FocusModals.j0]) ?_
    cases b with
    | true => exact Ev.pos rfl (Ev.bind awake_ev (Ev.fin rfl))
    | false =>
      refine Ev.neg (by decide) (Ev.bind (prog_modV l hw c) (Ev.bind (ref_modV l c) ?_))
      exact Ev.pos rfl (Ev.bind awake_ev (Ev.fin rfl))
  refine Ev.rounds (g := fun k => casementlaw17_FocusModals.f k l c) ?_
  unfold casementlaw17_FocusModals.f
  by_cases h : (l.length : Int) > 40
  · exact Ev.pos h (main _)
  · exact Ev.neg h (main _)
end Go.Proofs.Ytljnhnkdcpinhaa.Pure
