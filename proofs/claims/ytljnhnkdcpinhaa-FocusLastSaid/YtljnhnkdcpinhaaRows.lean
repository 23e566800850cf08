/-
  No cell of these rows narrows 'for every input' (looked for: loops, veiled, ifaces, maps, wideKeys, modest, calm, conditions, laid).
  DERIVED. THE GIVEN ROWS OF THIS SEAT. 6 by the template 'for every input the law returns true; each argument reads behind the call as it read before'; 0 by the template 'total and deterministic' (their statements: YtljnhnkdcpinhaaTotals.lean).
  GIVEN WITH THE SEED: the statements are not yours to turn. If you find one false, say at which input.
  Laid BY PROGRAM, IN A SANDBOX (cutbox-rows.mjs): the forced cells as the released guide's own fill.sh prints them over the translation 0d215bacad4b692b… (all of the seat's roots in one cut). By AI agents, Wed Nov 11 2026. No macro, syntax, notation, axiom, sorry.
-/
import Derived.Test.YtljnhnkdcpinhaaChecked
import GoSem.Claim
import GoSem.ClaimJoined
import GoSem.ClaimMapViews
import Derived.JoinedTies
import Derived.KernelRfl
namespace Go.Proofs.Ytljnhnkdcpinhaa
/- THE CELL 'sum', in the pinned program and in every row, IS THE sha256 OF THE DUMP (.gsa) THAT YtljnhnkdcpinhaaProg.lean LOADS. Nothing in Lean hashes anything: it is a label: what it is worth is what the hold of that sum in a sandbox is worth. -/
noncomputable def Try.pinned : Pinned := { name := "ytljnhnkdcpinhaa", sum := "0d215bacad4b692bdc084568b87d6fdfcfa590152050d30272b1c6ede83232f4", checked := Try.checked }
namespace Rows
def none {H : Type} : Left H := { results := [], args := [] }

/-- 'casementlaw17.FocusModals': WHATEVER THE INPUT: true; the input reads as it did. -/
def focusModalsSpec : ChangeSpec := { name := "focusModals", fn := fun _ => fun
  | [d1, d2] => { results := [.lit (.bool true)], args := [d1, d2] }
  | _ => none }
def focusModalsRow : OpenClaim := { program := "ytljnhnkdcpinhaa", sum := "0d215bacad4b692bdc084568b87d6fdfcfa590152050d30272b1c6ede83232f4", func := "casement/casementlaw17.FocusModals", spec := "focusModals", unfollowed := true, recurses := true, apart := false }
def FocusModalsSaid : Prop := focusModalsRow.holds Try.pinned (OpenSpec.ofChange focusModalsSpec)

/-- ITS FALSE NEIGHBOUR: 'it returns false'. Refute it at one input. -/
def focusModalsWrong : ChangeSpec := { name := "focusModals", fn := fun _ => fun
  | [d1, d2] => { results := [.lit (.bool false)], args := [d1, d2] }
  | _ => none }
def FocusModalsWrongFalsely : Prop := focusModalsRow.holds Try.pinned (OpenSpec.ofChange focusModalsWrong)

/-- 'casementlaw17.FocusChooses': WHATEVER THE INPUT: true; the input reads as it did. -/
def focusChoosesSpec : ChangeSpec := { name := "focusChooses", fn := fun _ => fun
  | [d1, d2] => { results := [.lit (.bool true)], args := [d1, d2] }
  | _ => none }
def focusChoosesRow : OpenClaim := { program := "ytljnhnkdcpinhaa", sum := "0d215bacad4b692bdc084568b87d6fdfcfa590152050d30272b1c6ede83232f4", func := "casement/casementlaw17.FocusChooses", spec := "focusChooses", unfollowed := true, recurses := true, apart := false }
def FocusChoosesSaid : Prop := focusChoosesRow.holds Try.pinned (OpenSpec.ofChange focusChoosesSpec)

/-- ITS FALSE NEIGHBOUR: 'it returns false'. Refute it at one input. -/
def focusChoosesWrong : ChangeSpec := { name := "focusChooses", fn := fun _ => fun
  | [d1, d2] => { results := [.lit (.bool false)], args := [d1, d2] }
  | _ => none }
def FocusChoosesWrongFalsely : Prop := focusChoosesRow.holds Try.pinned (OpenSpec.ofChange focusChoosesWrong)

/-- 'casementlaw17.FocusFalls': WHATEVER THE INPUT: true; the input reads as it did. -/
def focusFallsSpec : ChangeSpec := { name := "focusFalls", fn := fun _ => fun
  | [d1, d2, d3] => { results := [.lit (.bool true)], args := [d1, d2, d3] }
  | _ => none }
def focusFallsRow : OpenClaim := { program := "ytljnhnkdcpinhaa", sum := "0d215bacad4b692bdc084568b87d6fdfcfa590152050d30272b1c6ede83232f4", func := "casement/casementlaw17.FocusFalls", spec := "focusFalls", unfollowed := true, recurses := true, apart := false }
def FocusFallsSaid : Prop := focusFallsRow.holds Try.pinned (OpenSpec.ofChange focusFallsSpec)

/-- ITS FALSE NEIGHBOUR: 'it returns false'. Refute it at one input. -/
def focusFallsWrong : ChangeSpec := { name := "focusFalls", fn := fun _ => fun
  | [d1, d2, d3] => { results := [.lit (.bool false)], args := [d1, d2, d3] }
  | _ => none }
def FocusFallsWrongFalsely : Prop := focusFallsRow.holds Try.pinned (OpenSpec.ofChange focusFallsWrong)

/-- 'casementlaw17.FocusFree': WHATEVER THE INPUT: true; the input reads as it did. -/
def focusFreeSpec : ChangeSpec := { name := "focusFree", fn := fun _ => fun
  | [d1, d2, d3] => { results := [.lit (.bool true)], args := [d1, d2, d3] }
  | _ => none }
def focusFreeRow : OpenClaim := { program := "ytljnhnkdcpinhaa", sum := "0d215bacad4b692bdc084568b87d6fdfcfa590152050d30272b1c6ede83232f4", func := "casement/casementlaw17.FocusFree", spec := "focusFree", unfollowed := true, recurses := true, apart := false }
def FocusFreeSaid : Prop := focusFreeRow.holds Try.pinned (OpenSpec.ofChange focusFreeSpec)

/-- ITS FALSE NEIGHBOUR: 'it returns false'. Refute it at one input. -/
def focusFreeWrong : ChangeSpec := { name := "focusFree", fn := fun _ => fun
  | [d1, d2, d3] => { results := [.lit (.bool false)], args := [d1, d2, d3] }
  | _ => none }
def FocusFreeWrongFalsely : Prop := focusFreeRow.holds Try.pinned (OpenSpec.ofChange focusFreeWrong)

/-- 'casementlaw17.FocusLast': WHATEVER THE INPUT: true; the input reads as it did. -/
def focusLastSpec : ChangeSpec := { name := "focusLast", fn := fun _ => fun
  | [d1, d2] => { results := [.lit (.bool true)], args := [d1, d2] }
  | _ => none }
def focusLastRow : OpenClaim := { program := "ytljnhnkdcpinhaa", sum := "0d215bacad4b692bdc084568b87d6fdfcfa590152050d30272b1c6ede83232f4", func := "casement/casementlaw17.FocusLast", spec := "focusLast", unfollowed := true, recurses := true, apart := false }
def FocusLastSaid : Prop := focusLastRow.holds Try.pinned (OpenSpec.ofChange focusLastSpec)

/-- ITS FALSE NEIGHBOUR: 'it returns false'. Refute it at one input. -/
def focusLastWrong : ChangeSpec := { name := "focusLast", fn := fun _ => fun
  | [d1, d2] => { results := [.lit (.bool false)], args := [d1, d2] }
  | _ => none }
def FocusLastWrongFalsely : Prop := focusLastRow.holds Try.pinned (OpenSpec.ofChange focusLastWrong)

/-- 'casementlaw17.FocusTwice': WHATEVER THE INPUT: true; the input reads as it did. -/
def focusTwiceSpec : ChangeSpec := { name := "focusTwice", fn := fun _ => fun
  | [d1, d2] => { results := [.lit (.bool true)], args := [d1, d2] }
  | _ => none }
def focusTwiceRow : OpenClaim := { program := "ytljnhnkdcpinhaa", sum := "0d215bacad4b692bdc084568b87d6fdfcfa590152050d30272b1c6ede83232f4", func := "casement/casementlaw17.FocusTwice", spec := "focusTwice", unfollowed := true, recurses := true, apart := false }
def FocusTwiceSaid : Prop := focusTwiceRow.holds Try.pinned (OpenSpec.ofChange focusTwiceSpec)

/-- ITS FALSE NEIGHBOUR: 'it returns false'. Refute it at one input. -/
def focusTwiceWrong : ChangeSpec := { name := "focusTwice", fn := fun _ => fun
  | [d1, d2] => { results := [.lit (.bool false)], args := [d1, d2] }
  | _ => none }
def FocusTwiceWrongFalsely : Prop := focusTwiceRow.holds Try.pinned (OpenSpec.ofChange focusTwiceWrong)

/- THE SECOND FORM. 'bulk': how many values and letters a reading holds, each counted each time it is reached (what is shared counts as often as it is met; a slice's spare places count too). A statement '..UptoSaid' is the law's where the arguments, and the package variables that the reading takes, are together of bulk at most 1048576: NARROWER than '..Said'. Prove '..Said' where nothing that the law and all that it calls make is longer than what came in: it says more and counts as full. Else prove '..UptoSaid'. A law counts once. -/
mutual
def uptoBulk {H : Type} : DataW H → Nat
  | .lit (.string bytes) => bytes.length + 1
  | .lit _ => 1
  | .nil => 1
  | .ptr d => uptoBulk d + 1
  | .slice elems spare => uptoBulkAll elems + uptoBulkAll spare + 1
  | .agg parts => uptoBulkAll parts + 1
  | .iface _ d => uptoBulk d + 1
  | .map entries => uptoBulkEntries entries + 1
  | .held _ => 1
def uptoBulkAll {H : Type} : List (DataW H) → Nat
  | [] => 0
  | d :: r => uptoBulk d + uptoBulkAll r
def uptoBulkEntries {H : Type} : List (Lit × DataW H) → Nat
  | [] => 0
  | x :: r => uptoBulkEntry x + uptoBulkEntries r
def uptoBulkEntry {H : Type} : Lit × DataW H → Nat
  | (.string bytes, d) => bytes.length + uptoBulk d + 1
  | (_, d) => uptoBulk d + 1
 end
def uptoSmall : (H : Type) → List (DataW H) → Bool := fun _ ds => decide (uptoBulkAll ds ≤ 1048576)
def OpenSpec.upto (s : _root_.Go.ChangeSpec) : _root_.Go.OpenSpec := { _root_.Go.OpenSpec.ofChange s with cond := some uptoSmall }

/-- 'casementlaw17.FocusModals', WHERE WHAT IT READS IS OF BULK AT MOST 1048576: true; the input reads as it did. -/
def focusModalsUptoRow : OpenClaim := { program := "ytljnhnkdcpinhaa", sum := "0d215bacad4b692bdc084568b87d6fdfcfa590152050d30272b1c6ede83232f4", func := "casement/casementlaw17.FocusModals", spec := "focusModals", unfollowed := true, recurses := true, apart := false, narrowed := true }
def FocusModalsUptoSaid : Prop := focusModalsUptoRow.holds Try.pinned (OpenSpec.upto focusModalsSpec)

/-- 'casementlaw17.FocusChooses', WHERE WHAT IT READS IS OF BULK AT MOST 1048576: true; the input reads as it did. -/
def focusChoosesUptoRow : OpenClaim := { program := "ytljnhnkdcpinhaa", sum := "0d215bacad4b692bdc084568b87d6fdfcfa590152050d30272b1c6ede83232f4", func := "casement/casementlaw17.FocusChooses", spec := "focusChooses", unfollowed := true, recurses := true, apart := false, narrowed := true }
def FocusChoosesUptoSaid : Prop := focusChoosesUptoRow.holds Try.pinned (OpenSpec.upto focusChoosesSpec)

/-- 'casementlaw17.FocusFalls', WHERE WHAT IT READS IS OF BULK AT MOST 1048576: true; the input reads as it did. -/
def focusFallsUptoRow : OpenClaim := { program := "ytljnhnkdcpinhaa", sum := "0d215bacad4b692bdc084568b87d6fdfcfa590152050d30272b1c6ede83232f4", func := "casement/casementlaw17.FocusFalls", spec := "focusFalls", unfollowed := true, recurses := true, apart := false, narrowed := true }
def FocusFallsUptoSaid : Prop := focusFallsUptoRow.holds Try.pinned (OpenSpec.upto focusFallsSpec)

/-- 'casementlaw17.FocusFree', WHERE WHAT IT READS IS OF BULK AT MOST 1048576: true; the input reads as it did. -/
def focusFreeUptoRow : OpenClaim := { program := "ytljnhnkdcpinhaa", sum := "0d215bacad4b692bdc084568b87d6fdfcfa590152050d30272b1c6ede83232f4", func := "casement/casementlaw17.FocusFree", spec := "focusFree", unfollowed := true, recurses := true, apart := false, narrowed := true }
def FocusFreeUptoSaid : Prop := focusFreeUptoRow.holds Try.pinned (OpenSpec.upto focusFreeSpec)

/-- 'casementlaw17.FocusLast', WHERE WHAT IT READS IS OF BULK AT MOST 1048576: true; the input reads as it did. -/
def focusLastUptoRow : OpenClaim := { program := "ytljnhnkdcpinhaa", sum := "0d215bacad4b692bdc084568b87d6fdfcfa590152050d30272b1c6ede83232f4", func := "casement/casementlaw17.FocusLast", spec := "focusLast", unfollowed := true, recurses := true, apart := false, narrowed := true }
def FocusLastUptoSaid : Prop := focusLastUptoRow.holds Try.pinned (OpenSpec.upto focusLastSpec)

/-- 'casementlaw17.FocusTwice', WHERE WHAT IT READS IS OF BULK AT MOST 1048576: true; the input reads as it did. -/
def focusTwiceUptoRow : OpenClaim := { program := "ytljnhnkdcpinhaa", sum := "0d215bacad4b692bdc084568b87d6fdfcfa590152050d30272b1c6ede83232f4", func := "casement/casementlaw17.FocusTwice", spec := "focusTwice", unfollowed := true, recurses := true, apart := false, narrowed := true }
def FocusTwiceUptoSaid : Prop := focusTwiceUptoRow.holds Try.pinned (OpenSpec.upto focusTwiceSpec)

end Rows
end Go.Proofs.Ytljnhnkdcpinhaa
