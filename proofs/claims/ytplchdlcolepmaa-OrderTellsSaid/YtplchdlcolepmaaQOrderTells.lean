/- The one plain statement of casementlaw16_OrderTells, and that the walk of the law's function follows from it. Conditions: what the arguments' types say. -/
import Derived.Test.YtplchdlcolepmaaPx7
import Derived.Test.YtplchdlcolepmaaOpen
namespace Go.Proofs.Ytplchdlcolepmaa.O
open Go.RowKit Go.Proofs.Ytplchdlcolepmaa.P Go.Proofs.YtplchdlcolepmaaW.PrintWords Go.Proofs.YtplchdlcolepmaaW.PrintLast
set_option linter.unusedVariables false
set_option linter.unusedSimpArgs false
def casementlaw16_OrderTells.Pure : Prop := ∀ (l0 : List (S38)), l0.length ≤ maxLen → (∀ x ∈ l0, good38 x) → ∃ k, casementlaw16_OrderTells.f k l0 = some true
theorem casementlaw16_OrderTells.walk (P : casementlaw16_OrderTells.Pure) (a0 : Option Addr) (c0 : Nat) (l0 : List (S38)) (w : World) (hC0 : Kd.C k38 w a0 l0.length l0) (hc0 : l0.length ≤ c0) (hg0 : ∀ x ∈ l0, good38 x) :
    Calls Try.prog 4 #[.slice a0 l0.length c0] w fun e w' => e = .returned (.bool true) ∧ Below w.heap.size w w' := by
  obtain ⟨k, h⟩ := P l0 (by have := hC0.2.1; simp only [maxLen]; omega) hg0
  refine (casementlaw16_OrderTells.calls k _ _ l0 true w hC0 hc0 h).mono ?_
  rintro e w' ⟨rfl, hd⟩
  exact ⟨rfl, hd⟩
end Go.Proofs.Ytplchdlcolepmaa.O
