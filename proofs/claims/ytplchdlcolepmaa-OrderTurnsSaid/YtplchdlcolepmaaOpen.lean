/- What the laws' argument types read as. No conditions. -/
import Derived.Test.YtplchdlcolepmaaPx0
import Derived.Test.YtplchdlcolepmaaOpn
namespace Go.Proofs.Ytplchdlcolepmaa.O
open Go.RowKit Go.Proofs.Ytplchdlcolepmaa.P Go.Proofs.YtplchdlcolepmaaW.PrintWords Go.Proofs.YtplchdlcolepmaaW.PrintLast
set_option linter.unusedVariables false
set_option linter.unusedSimpArgs false
def good38 (y : S38) : Prop := (fun n => (Lit.int .i64 n).wf = true) y.f0 ∧ (fun n => (Lit.int .i64 n).wf = true) y.f1 ∧ (fun n => (Lit.int .i64 n).wf = true) y.f2 ∧ (fun _ => True) y.f3 ∧ (fun n => (Lit.int .i64 n).wf = true) y.f4 ∧ (fun n => (Lit.int .i64 n).wf = true) y.f5
theorem open38 {H : Type} {enc : TypeId × Value → H} {W : World} {base : Nat} {spare : Nat → Bool} {held : Bool} : Opens enc Try.prog W base spare held 38 k38 good38 := by
  intro fuel cs x h
  obtain ⟨xs, n, rfl, _, hlen, hxs, hf⟩ := DataW.trod_struct Try.underlying38 h
  rw [show Try.prog.cellsOf 38 = 6 by kernel_rfl] at hlen
  have f0 : DataW.trod enc Try.prog W base spare held n 3 ((cs.drop 0).take (Try.prog.cellsOf 3)) = xs[0]? := hf 0 _ rfl
  obtain ⟨y0, e0⟩ : ∃ y, xs[0]? = some y := ⟨_, List.getElem?_eq_getElem (by rw [hxs]; decide)⟩
  rw [e0, show Try.prog.cellsOf 3 = 1 by kernel_rfl] at f0
  obtain ⟨v0, h0, g0⟩ := (show Opens enc Try.prog W base spare held 3 (Kd.int .i64) (fun n => (Lit.int .i64 n).wf = true) from (Opens.int Try.underlying3)) _ _ _ f0
  have f1 : DataW.trod enc Try.prog W base spare held n 3 ((cs.drop 1).take (Try.prog.cellsOf 3)) = xs[1]? := hf 1 _ rfl
  obtain ⟨y1, e1⟩ : ∃ y, xs[1]? = some y := ⟨_, List.getElem?_eq_getElem (by rw [hxs]; decide)⟩
  rw [e1, show Try.prog.cellsOf 3 = 1 by kernel_rfl] at f1
  obtain ⟨v1, h1, g1⟩ := (show Opens enc Try.prog W base spare held 3 (Kd.int .i64) (fun n => (Lit.int .i64 n).wf = true) from (Opens.int Try.underlying3)) _ _ _ f1
  have f2 : DataW.trod enc Try.prog W base spare held n 3 ((cs.drop 2).take (Try.prog.cellsOf 3)) = xs[2]? := hf 2 _ rfl
  obtain ⟨y2, e2⟩ : ∃ y, xs[2]? = some y := ⟨_, List.getElem?_eq_getElem (by rw [hxs]; decide)⟩
  rw [e2, show Try.prog.cellsOf 3 = 1 by kernel_rfl] at f2
  obtain ⟨v2, h2, g2⟩ := (show Opens enc Try.prog W base spare held 3 (Kd.int .i64) (fun n => (Lit.int .i64 n).wf = true) from (Opens.int Try.underlying3)) _ _ _ f2
  have f3 : DataW.trod enc Try.prog W base spare held n 4 ((cs.drop 3).take (Try.prog.cellsOf 4)) = xs[3]? := hf 3 _ rfl
  obtain ⟨y3, e3⟩ : ∃ y, xs[3]? = some y := ⟨_, List.getElem?_eq_getElem (by rw [hxs]; decide)⟩
  rw [e3, show Try.prog.cellsOf 4 = 1 by kernel_rfl] at f3
  obtain ⟨v3, h3, g3⟩ := (show Opens enc Try.prog W base spare held 4 Kd.bool (fun _ => True) from (Opens.bool Try.underlying4)) _ _ _ f3
  have f4 : DataW.trod enc Try.prog W base spare held n 3 ((cs.drop 4).take (Try.prog.cellsOf 3)) = xs[4]? := hf 4 _ rfl
  obtain ⟨y4, e4⟩ : ∃ y, xs[4]? = some y := ⟨_, List.getElem?_eq_getElem (by rw [hxs]; decide)⟩
  rw [e4, show Try.prog.cellsOf 3 = 1 by kernel_rfl] at f4
  obtain ⟨v4, h4, g4⟩ := (show Opens enc Try.prog W base spare held 3 (Kd.int .i64) (fun n => (Lit.int .i64 n).wf = true) from (Opens.int Try.underlying3)) _ _ _ f4
  have f5 : DataW.trod enc Try.prog W base spare held n 3 ((cs.drop 5).take (Try.prog.cellsOf 3)) = xs[5]? := hf 5 _ rfl
  obtain ⟨y5, e5⟩ : ∃ y, xs[5]? = some y := ⟨_, List.getElem?_eq_getElem (by rw [hxs]; decide)⟩
  rw [e5, show Try.prog.cellsOf 3 = 1 by kernel_rfl] at f5
  obtain ⟨v5, h5, g5⟩ := (show Opens enc Try.prog W base spare held 3 (Kd.int .i64) (fun n => (Lit.int .i64 n).wf = true) from (Opens.int Try.underlying3)) _ _ _ f5
  exact ⟨⟨v0, v1, v2, v3, v4, v5⟩, ⟨(cs.drop 0).take 1, cs.drop 1, split_at cs 0 1, h0, ⟨(cs.drop 1).take 1, cs.drop 2, split_at cs 1 1, h1, ⟨(cs.drop 2).take 1, cs.drop 3, split_at cs 2 1, h2, ⟨(cs.drop 3).take 1, cs.drop 4, split_at cs 3 1, h3, ⟨(cs.drop 4).take 1, cs.drop 5, split_at cs 4 1, h4, (by rw [last_at cs 5 1 6 hlen rfl] at h5; exact h5)⟩⟩⟩⟩⟩, ⟨g0, g1, g2, g3, g4, g5⟩⟩
end Go.Proofs.Ytplchdlcolepmaa.O
