/- The one plain statement of casementlaw16_OrderTurns, and that the walk of the law's function follows from it. Conditions: what the arguments' types say. -/
import Derived.Test.YtplchdlcolepmaaPx9
import Derived.Test.YtplchdlcolepmaaOpen
namespace Go.Proofs.Ytplchdlcolepmaa.O
open Go.RowKit Go.Proofs.Ytplchdlcolepmaa.P Go.Proofs.YtplchdlcolepmaaW.PrintWords Go.Proofs.YtplchdlcolepmaaW.PrintLast
set_option linter.unusedVariables false
set_option linter.unusedSimpArgs false
def casementlaw16_OrderTurns.Pure : Prop := ∀ (l0 : List (S38)) (a1 : Int), l0.length ≤ maxLen → (∀ x ∈ l0, good38 x) → (Lit.int .u64 a1).wf = true → ∃ k, casementlaw16_OrderTurns.f k l0 a1 = some true
theorem casementlaw16_OrderTurns.walk (P : casementlaw16_OrderTurns.Pure) (a0 : Option Addr) (c0 : Nat) (l0 : List (S38)) (a1 : Int) (w : World) (hC0 : Kd.C k38 w a0 l0.length l0) (hc0 : l0.length ≤ c0) (hg0 : ∀ x ∈ l0, good38 x) (w1 : (Lit.int .u64 a1).wf = true) :
    Calls Try.prog 6 #[.slice a0 l0.length c0, .int .u64 a1] w fun e w' => e = .returned (.bool true) ∧ Below w.heap.size w w' := by
  obtain ⟨k, h⟩ := P l0 a1 (by have := hC0.2.1; simp only [maxLen]; omega) hg0 w1
  refine (casementlaw16_OrderTurns.calls k _ _ l0 a1 true w hC0 hc0 h).mono ?_
  rintro e w' ⟨rfl, hd⟩
  exact ⟨rfl, hd⟩
end Go.Proofs.Ytplchdlcolepmaa.O
