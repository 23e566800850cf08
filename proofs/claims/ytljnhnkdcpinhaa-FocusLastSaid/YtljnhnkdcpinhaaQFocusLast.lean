/- The one plain statement of casementlaw17_FocusLast, and that the walk of the law's function follows from it. Conditions: what the arguments' types say. -/
import Derived.Test.YtljnhnkdcpinhaaPx11
import Derived.Test.YtljnhnkdcpinhaaOpen
namespace Go.Proofs.Ytljnhnkdcpinhaa.O
open Go.RowKit Go.Proofs.Ytljnhnkdcpinhaa.P Go.Proofs.YtljnhnkdcpinhaaW.PrintWords Go.Proofs.YtljnhnkdcpinhaaW.PrintLast
set_option linter.unusedVariables false
set_option linter.unusedSimpArgs false
def casementlaw17_FocusLast.Pure : Prop := ∀ (l0 : List (S35)) (l1 : List Int), l0.length ≤ maxLen → (∀ x ∈ l0, good35 x) → l1.length ≤ maxLen → (∀ x ∈ l1, (fun n => (Lit.int .i64 n).wf = true) x) → ∃ k, casementlaw17_FocusLast.f k l0 l1 = some true
theorem casementlaw17_FocusLast.walk (P : casementlaw17_FocusLast.Pure) (a0 : Option Addr) (c0 : Nat) (l0 : List (S35)) (a1 : Option Addr) (c1 : Nat) (l1 : List Int) (w : World) (hC0 : Kd.C k35 w a0 l0.length l0) (hc0 : l0.length ≤ c0) (hg0 : ∀ x ∈ l0, good35 x) (hC1 : Kd.C (Kd.int .i64) w a1 l1.length l1) (hc1 : l1.length ≤ c1) (hg1 : ∀ x ∈ l1, (fun n => (Lit.int .i64 n).wf = true) x) :
    Calls Try.prog 7 #[.slice a0 l0.length c0, .slice a1 l1.length c1] w fun e w' => e = .returned (.bool true) ∧ Below w.heap.size w w' := by
  obtain ⟨k, h⟩ := P l0 l1 (by have := hC0.2.1; simp only [maxLen]; omega) hg0 (by have := hC1.2.1; simp only [maxLen]; omega) hg1
  refine (casementlaw17_FocusLast.calls k _ _ l0 _ _ l1 true w hC0 hc0 hC1 hc1 h).mono ?_
  rintro e w' ⟨rfl, hd⟩
  exact ⟨rfl, hd⟩
end Go.Proofs.Ytljnhnkdcpinhaa.O
