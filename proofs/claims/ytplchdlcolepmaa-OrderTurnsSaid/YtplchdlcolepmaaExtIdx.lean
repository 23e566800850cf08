/-
  The place of a client in a list of things, as the document's answer looks for it. Plain Lean.
-/
import Derived.Test.YtplchdlcolepmaaExtOwnersB
namespace Go.Proofs.Ytplchdlcolepmaa.P
open Go.RowKit Go.Proofs.YtplchdlcolepmaaW.PrintWords Go.Proofs.YtplchdlcolepmaaW.PrintLast
set_option linter.unusedVariables false

def idxF : List It → Int → Int → Int
  | [], _, _ => -1
  | x :: l, o, i => if x.f0 = o then i else idxF l o (i + 1)
end Go.Proofs.Ytplchdlcolepmaa.P
