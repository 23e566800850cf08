/- The one plain statement of casementlaw17_FocusTwice, and that the walk of the law's function follows from it. Conditions: what the arguments' types say. -/
import Derived.Test.YtljnhnkdcpinhaaPx12
import Derived.Test.YtljnhnkdcpinhaaOpen
namespace Go.Proofs.Ytljnhnkdcpinhaa.O
open Go.RowKit Go.Proofs.Ytljnhnkdcpinhaa.P Go.Proofs.YtljnhnkdcpinhaaW.PrintWords Go.Proofs.YtljnhnkdcpinhaaW.PrintLast
set_option linter.unusedVariables false
set_option linter.unusedSimpArgs false
def casementlaw17_FocusTwice.Pure : Prop := ∀ (l0 : List (S35)) (a1 : Int), l0.length ≤ maxLen → (∀ x ∈ l0, good35 x) → (Lit.int .i64 a1).wf = true → ∃ k, casementlaw17_FocusTwice.f k l0 a1 = some true
theorem casementlaw17_FocusTwice.walk (P : casementlaw17_FocusTwice.Pure) (a0 : Option Addr) (c0 : Nat) (l0 : List (S35)) (a1 : Int) (w : World) (hC0 : Kd.C k35 w a0 l0.length l0) (hc0 : l0.length ≤ c0) (hg0 : ∀ x ∈ l0, good35 x) (w1 : (Lit.int .i64 a1).wf = true) :
    Calls Try.prog 8 #[.slice a0 l0.length c0, .int .i64 a1] w fun e w' => e = .returned (.bool true) ∧ Below w.heap.size w w' := by
  obtain ⟨k, h⟩ := P l0 a1 (by have := hC0.2.1; simp only [maxLen]; omega) hg0 w1
  refine (casementlaw17_FocusTwice.calls k _ _ l0 a1 true w hC0 hc0 h).mono ?_
  rintro e w' ⟨rfl, hd⟩
  exact ⟨rfl, hd⟩
end Go.Proofs.Ytljnhnkdcpinhaa.O
