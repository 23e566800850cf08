/-
  LexTokens: for every text the law's function answers true: lex.Tokens tells the pieces, or the first fault and its place, as the reference does. No conditions beyond the statement's own.
-/
import Derived.Test.YthlncjiapjahaaaLexRef
namespace Go.Proofs.Ythlncjiapjahaaa.Pure
open Go.RowKit Go.Proofs.Ythlncjiapjahaaa.P Go.Proofs.Ythlncjiapjahaaa.L Go.Proofs.Ythlncjiapjahaaa.E Go.Proofs.YthlncjiapjahaaaW.PrintWords Go.Proofs.YthlncjiapjahaaaW.PrintLast

theorem LexTokens : casementlaw18_LexTokens.Pure := by
  intro s hs
  suffices h : Ev (fun r => casementlaw18_LexTokens.f r s) true from h.rounds
  unfold casementlaw18_LexTokens.f
  have hfull : Ev (fun r => casementlaw18_LexTokens.j0 r s false) true := by
    refine Ev.step (fun _ => by rw [casementlaw18_LexTokens.j0]) ?_
    refine Ev.neg (by decide) ?_
    by_cases h1 : s.size ≤ 65536
    · refine Ev.bind (tokens_ev s h1) (Ev.bind (rtokens_ev s h1) (Ev.bind (same_toks s h1) (Ev.pos rfl ?_)))
      have hp := fin_place s.size [] [] (toks s.data.toList 0)
      exact Ev.pos hp.1 (Ev.pos hp.2 (Ev.bind awake_ev (Ev.fin rfl)))
    · refine Ev.bind (tokens_long s h1) (Ev.bind (rtokens_long s h1) (Ev.bind (same_ev [] 0 (by simp)) (Ev.pos rfl ?_)))
      exact Ev.pos rfl (Ev.pos rfl (Ev.bind awake_ev (Ev.fin rfl)))
  by_cases h2 : (s.size : Int) > 4000
  · refine Ev.pos h2 ?_
    by_cases h3 : (s.size : Int) ≤ 65536
    · rw [decide_eq_true h3]
      refine Ev.step (fun _ => by rw [casementlaw18_LexTokens.j0]) ?_
      exact Ev.pos rfl (Ev.bind awake_ev (Ev.fin rfl))
    · rw [decide_eq_false h3]; exact hfull
  · exact Ev.neg h2 hfull
end Go.Proofs.Ythlncjiapjahaaa.Pure
