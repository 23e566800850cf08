/-
  Maps from int to int that a call has made, as functions: small laws over the guide's 'ownsMap'. Conditions: keys are numbers of 64 bits.
-/
import Derived.Test.YtplchdlcolepmaaProg
import Derived.Maps.OwnSet
import Derived.Maps.Views
import Derived.WalkKit
import Derived.KernelRfl
namespace Go.Proofs.Ytplchdlcolepmaa.M
open Go Go.RowKit Go.Maps
set_option linter.unusedVariables false

theorem law3 : Keyed Try.prog 3 := int_keyed Try.underlying3
theorem zero3 (w : World) : (zeroValue 3).run Try.prog w = .ok (.int .i64 0) w := by kernel_rfl
abbrev I64 (c : Int) : Prop := (Lit.int .i64 c).wf = true
theorem i64_of {c : Int} (h1 : -9223372036854775808 ≤ c) (h2 : c ≤ 9223372036854775807) : I64 c := WalkArith.wf_i64 (by omega)

/-- block B is a map of at most n entries that tells m -/
def MapIs (w : World) (B n : Nat) (m : Int → Option Int) : Prop :=
  ∃ D : DataW Unit, w.ownsMap Try.prog 3 (plainElem Try.prog 3) B n D ∧ ∀ c : Int, I64 c → Maps.has D (.int .i64 c) = (m c).isSome ∧ D.atKey (.int .i64 c) (.lit (.int .i64 0)) = .lit (.int .i64 ((m c).getD 0))

theorem MapIs.made (w : World) : MapIs (w.alloc (.map #[] 0)) w.heap.size 0 (fun _ => none) :=
  ⟨.map [], World.ownsMap_made _ _ _ _, fun c _ => ⟨rfl, rfl⟩⟩
theorem hkey {c : Int} (h : I64 c) : keyOf Try.prog 3 (.int .i64 c) = some (.int .i64 c) := keyOf_int_mk Try.underlying3 h
theorem isKey_int (c : Int) : WideAt.IsKeyLit (.int .i64 c) := trivial
theorem MapIs.congr {w : World} {B n : Nat} {m m' : Int → Option Int} (h : MapIs w B n m) (e : ∀ c, I64 c → m c = m' c) : MapIs w B n m' := by
  obtain ⟨D, h1, h2⟩ := h
  exact ⟨D, h1, fun c hc => by rw [← e c hc]; exact h2 c hc⟩
theorem MapIs.put {w' : World} {B n : Nat} {m : Int → Option Int} {D : DataW Unit} (hm : IsMap D) (h2 : ∀ c : Int, I64 c → Maps.has D (.int .i64 c) = (m c).isSome ∧ D.atKey (.int .i64 c) (.lit (.int .i64 0)) = .lit (.int .i64 ((m c).getD 0))) (x v : Int)
    (h : w'.ownsMap Try.prog 3 (plainElem Try.prog 3) B n (D.put (.int .i64 x) (.lit (.int .i64 v)))) : MapIs w' B n (fun c => if c = x then some v else m c) := by
  refine ⟨_, h, fun c hc => ?_⟩
  show Maps.has _ _ = (if c = x then some v else m c).isSome ∧ DataW.atKey _ _ _ = .lit (.int .i64 ((if c = x then some v else m c).getD 0))
  by_cases e : c = x
  · subst e
    rw [if_pos rfl, has_put_same hm (isKey_int c), atKey_put_same hm (isKey_int c)]
    exact ⟨rfl, rfl⟩
  · have hne : (Lit.int .i64 c) ≠ (Lit.int .i64 x) := by intro h; injection h with _ h; exact e h
    rw [if_neg e, has_put_other hne, atKey_put_other hne]
    exact h2 c hc
end Go.Proofs.Ytplchdlcolepmaa.M
