/- The row of the law casementlaw17_FocusLast: for every input the law's function answers true, and each argument reads behind the call as it read before. -/
import Derived.Test.YtljnhnkdcpinhaaRows
import Derived.Test.YtljnhnkdcpinhaaQFocusLast
import Derived.Test.YtljnhnkdcpinhaaPureFocusLast
import Derived.WalkKit
import Derived.ProofKit
import Derived.OpenShut
import Derived.ShutString
import Derived.ChangeOld
import Derived.Below
import Derived.SizedLaws
import Derived.Test.YtljnhnkdcpinhaaWSized
namespace Go.Proofs.Ytljnhnkdcpinhaa.focusLast
open Go.ChangeShapes Go.WideShapes Go.ChangeAt Go.RowKit Go.Proofs.Ytljnhnkdcpinhaa.P Go.Proofs.Ytljnhnkdcpinhaa.O Go.Proofs.YtljnhnkdcpinhaaW.PrintWords
open Go.ChangeMaps (open_string shut_string)
set_option linter.unusedVariables false
theorem own : ownKnob Try.prog.godebug = none := by kernel_rfl
theorem laidOut : laidOutB Try.prog = true := by kernel_rfl
set_option maxRecDepth 100000 in
theorem lifted (os : Os) (started : os.Started) (H : Type) (enc : TypeId × Value → H) :
    ReturnsInHanded {} Try.checked os 7 .any (Rows.focusLastSpec.pre6 enc Try.prog Try.f7 Rows.focusLastRow.domain false) (Rows.focusLastSpec.post enc Try.prog Try.f7 false true false false) := by
  refine returnsInHanded_of_change_sized (C := Try.checked) own started (by kernel_rfl) Try.func7
    (ChangeSpec.witness6 (enc := enc) (C := Try.checked) false ⟨#[], #[.slice none 0 0, .slice none 0 0], []⟩ 8 (by kernel_rfl) (by kernel_rfl) (by kernel_rfl) (by kernel_rfl)) ?_
  intro W base args ds gs before hval0 hW hcnd hsz0 _
  have hsz : (DataW.weightsEach Try.prog (Try.f7.params.toList ++ Rows.focusLastSpec.plain.varTypes Try.prog) (ds ++ gs)).all (· ≤ reachBytes) = true := hsz0
  have hval : ∀ (j : Nat) t v, Try.f7.params[j]? = some t → args[j]? = some v → Value.okWide Try.prog W .any base t v := hval0
  have hW' := hW
  obtain ⟨p, q, hA0, hV, rfl, hfz, hnd⟩ := hW
  have hA : DataW.TrodAll enc Try.prog W 0 (fun _ => true) true Try.f7.params.toList args.toList ds p := hA0
  rw [Try.params7] at hA hval hsz
  obtain ⟨v0, vs0, d0, ds0, p0, q0, hargs, rfl, rfl, h0, r0⟩ := trodAll_cons hA
  obtain ⟨v1, vs1, d1, ds1, p1, q1, rfl, rfl, rfl, h1, r1⟩ := trodAll_cons r0
  obtain ⟨rfl, rfl, rfl⟩ := trodAll_nil r1
  obtain rfl : args = #[v0, v1] := by cases args; simp_all
  obtain ⟨rfl, rfl⟩ := trodVars_none hV
  obtain ⟨a0, len0, cap0, rfl⟩ := okWide_slice Try.underlying22 (hval 0 22 v0 rfl rfl)
  have k0 := h0
  have lt0 : ∀ x ∈ p0, x.block < W.heap.size := by obtain ⟨m, hm⟩ := k0; exact DataW.trod_lt m _ _ _ hm
  obtain ⟨l0, rfl, hC0, hc0, hg0⟩ : ∃ l : List (S35), len0 = l.length ∧ Kd.C k35 W a0 l.length l ∧ l.length ≤ cap0 ∧ ∀ x ∈ l, good35 x := by
    obtain ⟨fuel, hf⟩ := h0
    obtain ⟨l, ⟨A_, c_, hcs, hlc, hC⟩, hg⟩ := (show Opens enc Try.prog W 0 (fun _ => true) true 22 (Kd.slice 35 k35) _ from (Opens.slice Try.underlying22 (by kernel_rfl) open35)) _ _ _ hf
    simp [Value.cells] at hcs
    obtain ⟨rfl, rfl, rfl⟩ := hcs
    exact ⟨l, rfl, hC, hlc, hg⟩
  obtain ⟨a1, len1, cap1, rfl⟩ := okWide_slice Try.underlying26 (hval 1 26 v1 rfl rfl)
  have k1 := h1
  have lt1 : ∀ x ∈ p1, x.block < W.heap.size := by obtain ⟨m, hm⟩ := k1; exact DataW.trod_lt m _ _ _ hm
  obtain ⟨l1, rfl, hC1, hc1, hg1⟩ : ∃ l : List Int, len1 = l.length ∧ Kd.C (Kd.int .i64) W a1 l.length l ∧ l.length ≤ cap1 ∧ ∀ x ∈ l, (fun n => (Lit.int .i64 n).wf = true) x := by
    obtain ⟨fuel, hf⟩ := h1
    obtain ⟨l, ⟨A_, c_, hcs, hlc, hC⟩, hg⟩ := (show Opens enc Try.prog W 0 (fun _ => true) true 26 (Kd.slice 3 (Kd.int .i64)) _ from (Opens.slice Try.underlying26 (by kernel_rfl) (Opens.int Try.underlying3))) _ _ _ hf
    simp [Value.cells] at hcs
    obtain ⟨rfl, rfl, rfl⟩ := hcs
    exact ⟨l, rfl, hC, hlc, hg⟩
  clear hA0 hval0 hsz0 hsz
  refine (casementlaw17_FocusLast.walk Pure.FocusLast a0 cap0 l0 a1 cap1 l1 W hC0 hc0 hg0 hC1 hc1 hg1).mono fun e W' ⟨he, bel⟩ => ?_
  subst he
  exact ⟨_, rfl, _, _, _, [], _, [], hW', trodAll_mk1 (shut_bool Try.underlying4 _), (trodAll_cons_mk (Below.trod laidOut (by kernel_rfl) (of_decide_eq_true (by kernel_rfl)) k0 bel lt0) (trodAll_cons_mk (Below.trod laidOut (by kernel_rfl) (of_decide_eq_true (by kernel_rfl)) k1 bel lt1) trodAll_mk0)), rfl, bel.frame _, fun h => by cases h⟩
theorem over : Rows.focusLastRow.holds Try.pinned (OpenSpec.ofChange Rows.focusLastSpec) :=
  OpenClaim.holds_of_wide 7 Try.f7 rfl rfl rfl rfl rfl rfl rfl ⟨rfl, rfl, rfl, rfl, rfl⟩ rfl rfl rfl rfl rfl (by kernel_rfl) Try.func7 (by kernel_rfl)
    (of_decide_eq_true (by kernel_rfl)) (by unfold Func.isWrapper; first | (rw [if_pos (by decide +kernel)]; kernel_rfl) | (rw [if_neg (by decide +kernel)]; exact ⟨rfl, rfl⟩))
    (fun os started H enc _ => lifted os started H enc)
theorem proved : Rows.FocusLastSaid := over
#print axioms proved
end Go.Proofs.Ytljnhnkdcpinhaa.focusLast
namespace Go.Proofs.Ytljnhnkdcpinhaa
/-- The row, under a short name, for the claim. -/
theorem focusLast_holds : Rows.FocusLastSaid := focusLast.proved
end Go.Proofs.Ytljnhnkdcpinhaa
