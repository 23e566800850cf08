/-
  What a row in which each thing is the least that is free says, place by place. Plain Lean.
-/
import Derived.Test.YtplchdlcolepmaaOAwake
namespace Go.Proofs.Ytplchdlcolepmaa.G
open Go.Proofs.Ytplchdlcolepmaa.P Go.Proofs.Ytplchdlcolepmaa.E Go.Proofs.Ytplchdlcolepmaa.O Go.RowKit Go.Proofs.YtplchdlcolepmaaW.PrintWords Go.Proofs.YtplchdlcolepmaaW.PrintLast
set_option linter.unusedVariables false
set_option linter.unusedSimpArgs false

theorem ord_at (l : List It) : ∀ (s dn : List Nat), IsOrd l dn s → ∀ m (hm : m < s.length), Fr l (dn ++ s.take m) s[m] ∧ ∀ y ∈ s.drop (m + 1), Fr l (dn ++ s.take m) y → kLt l s[m] y := by
  intro s
  induction s with
  | nil => intro dn _ m hm; exact absurd hm (by simp)
  | cons x b ih =>
    intro dn h m hm
    obtain ⟨h1, h2, h3⟩ := h
    cases m with
    | zero => simpa using ⟨h1, h2⟩
    | succ m =>
      have := ih (dn ++ [x]) h3 m (by simpa using hm)
      simpa using this
theorem ord_owner {l : List It} {s : List Nat} (h : IsOrd l [] s) {m : Nat} (hm : m < s.length) {j : Nat} (hj : Gr l s[m] = some j) : ∃ p, ∃ hp : p < m, s[p]'(by omega) = j := by
  have h1 := (ord_at l s [] h m hm).1 j hj
  rw [List.nil_append, List.mem_take_iff_getElem] at h1
  obtain ⟨p, hp, e⟩ := h1
  exact ⟨p, by omega, e⟩
theorem Good.ord_bands {l : List It} (gd : Good l) {s : List Nat} (hs : ∀ i ∈ s, i < l.length) (h : IsOrd l [] s) {m : Nat} (hm : m + 1 < s.length) : Bd l s[m] ≤ Bd l s[m + 1] := by
  obtain ⟨h1, h2⟩ := ord_at l s [] h m (by omega)
  by_cases hf : Fr l ([] ++ s.take m) s[m + 1]
  · have := h2 s[m + 1] (by rw [List.mem_drop_iff_getElem]; exact ⟨0, by omega, rfl⟩) hf
    unfold kLt at this; omega
  · have h3 := (ord_at l s [] h (m + 1) hm).1
    cases e : Gr l s[m + 1] with
    | none => exact absurd (fun j hj => by rw [e] at hj; cases hj) hf
    | some j =>
      have h4 := h3 j e
      rw [List.nil_append, List.take_succ_eq_append_getElem (by omega)] at h4
      have hjs : j = s[m] := by
        rcases List.mem_append.mp h4 with h4 | h4
        · exfalso
          refine hf (fun j' hj' => ?_)
          rw [e] at hj'
          obtain rfl := Option.some.inj hj'
          exact h4
        · simpa using h4
      subst hjs
      exact gd.Bd_own (hs _ (List.getElem_mem hm)) e
theorem Good.ord_rise {l : List It} (gd : Good l) {s : List Nat} (hs : ∀ i ∈ s, i < l.length) (h : IsOrd l [] s) : ∀ (d m : Nat) (hm : m + d < s.length), Bd l (s[m]'(by omega)) ≤ Bd l s[m + d] := by
  intro d
  induction d with
  | zero => intro m hm; exact Int.le_refl _
  | succ d ih =>
    intro m hm
    have h1 := ih m (by omega)
    have h2 := gd.ord_bands hs h (m := m + d) (by omega)
    exact Int.le_trans h1 h2
theorem perm_parts {n : Nat} {s : List Nat} (h : s.Perm (List.range n)) : s.length = n ∧ s.Nodup ∧ (∀ i ∈ s, i < n) ∧ (∀ i, i < n → ∃ m, ∃ hm : m < s.length, s[m] = i) :=
  ⟨by rw [h.length_eq, List.length_range], h.nodup_iff.mpr List.nodup_range, fun i hi => List.mem_range.mp (h.mem_iff.mp hi), fun i hi => List.mem_iff_getElem.mp (h.mem_iff.mpr (List.mem_range.mpr hi))⟩
end Go.Proofs.Ytplchdlcolepmaa.G
