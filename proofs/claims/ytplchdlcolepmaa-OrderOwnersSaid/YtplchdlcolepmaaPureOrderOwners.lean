/-
  OrderOwners: for every list of things the law's function answers true. No conditions beyond the statement's own.
-/
import Derived.Test.YtplchdlcolepmaaOAwake
import Derived.Test.YtplchdlcolepmaaQOrderOwners
namespace Go.Proofs.Ytplchdlcolepmaa.Pure
open Go.RowKit Go.Proofs.Ytplchdlcolepmaa.P Go.Proofs.Ytplchdlcolepmaa.G Go.Proofs.Ytplchdlcolepmaa.E Go.Proofs.Ytplchdlcolepmaa.O Go.Proofs.YtplchdlcolepmaaW.PrintWords Go.Proofs.YtplchdlcolepmaaW.PrintLast
set_option linter.unusedVariables false

theorem OrderOwners : casementlaw16_OrderOwners.Pure := by
  intro l _ hg
  have hw : ∀ x ∈ l, wfIt x := fun x hx => wf_good (hg x hx)
  have h1 : (ownV l).length ≤ 9223372036854775000 := by
    unfold ownV
    split
    · rename_i h; rw [ownS_len]; have := h.len; omega
    · simp
  have h2 : (bdV l).length ≤ 9223372036854775000 := by
    unfold bdV
    split
    · rename_i h; rw [bdS_len]; have := h.len; omega
    · simp
  refine Ev.rounds (g := fun k => casementlaw16_OrderOwners.f k l) ?_
  unfold casementlaw16_OrderOwners.f
  refine Ev.bind (Ev.con (check_f hw)) (Ev.bind (ref_check l) (Ev.pos rfl ?_))
  refine Ev.bind (Ev.con (owners_f hw)) (Ev.bind (ref_owners l) (Ev.bind (ints_same _ h1) (Ev.pos rfl ?_)))
  refine Ev.bind (Ev.con (bands_f hw)) (Ev.bind (ref_bands l) (Ev.bind (ints_same _ h2) (Ev.pos rfl ?_)))
  exact Ev.bind awake_ev (Ev.fin rfl)
end Go.Proofs.Ytplchdlcolepmaa.Pure
