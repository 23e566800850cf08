/-
  FocusChooses: for every list of things and every list of times the law's function answers true. No conditions beyond the statement's own.
-/
import Derived.Test.YtljnhnkdcpinhaaFChoose
import Derived.Test.YtljnhnkdcpinhaaQFocusChooses
namespace Go.Proofs.Ytljnhnkdcpinhaa.Pure
open Go.RowKit Go.Proofs.Ytljnhnkdcpinhaa.P Go.Proofs.Ytljnhnkdcpinhaa.G Go.Proofs.Ytljnhnkdcpinhaa.E Go.Proofs.Ytljnhnkdcpinhaa.O Go.Proofs.YtljnhnkdcpinhaaW.PrintWords Go.Proofs.YtljnhnkdcpinhaaW.PrintLast
set_option linter.unusedVariables false

theorem FocusChooses : casementlaw17_FocusChooses.Pure := by
  intro l seen _ hg _ _
  have hw : ∀ x ∈ l, wfIt x := fun x hx => wf_good (hg x hx)
  have main : ∀ b : Bool, Ev (fun k => casementlaw17_FocusChooses.j0 k l seen b) true := by
    intro b
    refine Ev.step (fun _ => by rw [casementlaw17_FocusChooses.j0]) ?_
    cases b with
    | true => exact Ev.pos rfl (Ev.bind awake_ev (Ev.fin rfl))
    | false =>
      refine Ev.neg (by decide) (Ev.bind (prog_chV l seen hw) (Ev.bind (ref_chV l seen) ?_))
      exact Ev.pos rfl (Ev.bind awake_ev (Ev.fin rfl))
  refine Ev.rounds (g := fun k => casementlaw17_FocusChooses.f k l seen) ?_
  unfold casementlaw17_FocusChooses.f
  by_cases h : (l.length : Int) > 40
  · exact Ev.pos h (main _)
  · exact Ev.neg h (main _)
end Go.Proofs.Ytljnhnkdcpinhaa.Pure
