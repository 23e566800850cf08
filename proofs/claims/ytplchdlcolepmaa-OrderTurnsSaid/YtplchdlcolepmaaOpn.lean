/-
  What reads as data is told by a kind: slices and structs that a call is handed, as lists and structures of Lean. No conditions.
-/
import Derived.Test.YtplchdlcolepmaaWWords
import Derived.ChangeArms
import Derived.DataElems
namespace Go.Proofs.Ytplchdlcolepmaa.O
open Go.RowKit Go.Proofs.YtplchdlcolepmaaW.PrintWords
set_option linter.unusedVariables false
set_option linter.unusedSimpArgs false

section
variable {H : Type} {enc : TypeId × Value → H} {P : Program} {W : World} {base : Nat} {spare : Nat → Bool} {held : Bool}
/-- what reads as data of type t is told by d, and is good -/
def Opens {α : Type} (enc : TypeId × Value → H) (P : Program) (W : World) (base : Nat) (spare : Nat → Bool) (held : Bool) (t : TypeId) (d : Kd α) (good : α → Prop) : Prop :=
  ∀ (fuel : Nat) (cs : List Value) (x : DataW H × List MemPlace), DataW.trod enc P W base spare held fuel t cs = some x → ∃ y, d.K W y cs ∧ good y
theorem Opens.int {t : TypeId} {k : IntKind} (ht : P.underlying t = some (.int k)) : Opens enc P W base spare held t (Kd.int k) (fun n => (Lit.int k n).wf = true) := by
  intro fuel cs x h
  obtain ⟨n, rfl, _, hw⟩ := DataW.trod_int ht h
  exact ⟨n, rfl, hw⟩
theorem Opens.bool {t : TypeId} (ht : P.underlying t = some .bool) : Opens enc P W base spare held t Kd.bool (fun _ => True) := by
  intro fuel cs x h
  obtain ⟨b, rfl, _⟩ := DataW.trod_bool ht h
  exact ⟨b, rfl, trivial⟩
theorem Opens.string {t : TypeId} (ht : P.underlying t = some .string) : Opens enc P W base spare held t Kd.string (fun s => s.size ≤ maxLen) := by
  intro fuel cs x h
  obtain ⟨s, rfl, _, hs⟩ := DataW.trod_string ht h
  exact ⟨s, rfl, hs⟩
theorem cells_at {w : World} {b : Nat} {a : Addr} {n : Nat} {cs : List Value} (h : w.cells? b a n = some cs) : cs.length = n ∧ ∀ i u, cs[i]? = some u → w.cell? (a.add i) = some u := by
  unfold World.cells? at h
  split at h
  · have hl := mapM_some_length h
    simp only [List.length_range] at hl
    refine ⟨hl, fun i u hu => ?_⟩
    have hi : i < n := by rw [← hl]; exact (List.getElem?_eq_some_iff.1 hu).1
    have := mapM_some_get h i i (by simp [hi])
    rw [this, hu]
  · exact absurd h (by simp)
theorem Opens.slice {α : Type} {t e : TypeId} {d : Kd α} {good : α → Prop} (ht : P.underlying t = some (.slice e)) (hsz : P.cellsOf e = d.sz) (he : Opens enc P W base spare held e d good) :
    Opens enc P W base spare held t (Kd.slice e d) (fun l => ∀ x ∈ l, good x) := by
  intro fuel cs x h
  rcases DataW.trod_slice ht h with ⟨rfl, _⟩ | ⟨a, len, cap, elems, rest, n, _, rfl, _, _, hlc, hcm, hel, hget, _⟩
  · exact ⟨[], ⟨none, 0, rfl, Nat.le_refl _, rfl, by simp, fun h => absurd h (by simp)⟩, by simp⟩
  · have hy : ∀ i : Nat, i < len → ∃ y, (∃ c, W.cells? base (a.add (i * P.cellsOf e)) (P.cellsOf e) = some c ∧ d.K W y c) ∧ good y := by
      intro i hi
      have hg := hget i hi
      rw [List.getElem?_eq_getElem (by omega)] at hg
      obtain ⟨c, hc, hx⟩ := Option.bind_eq_some_iff.1 hg
      obtain ⟨y, h1, h2⟩ := he n c _ hx
      exact ⟨y, ⟨c, hc, h1⟩, h2⟩
    let f : Nat → Option α := fun i => if h : i < len then some (Classical.choose (hy i h)) else none
    have hl : ∃ l : List α, l.length = len ∧ ∀ i y, l[i]? = some y → ∃ h : i < len, y = Classical.choose (hy i h) := by
      refine ⟨(List.range len).attach.map (fun i => Classical.choose (hy i.1 (List.mem_range.1 i.2))), by simp, ?_⟩
      intro i y hiy
      rw [List.getElem?_map] at hiy
      obtain ⟨z, hz, rfl⟩ := Option.map_eq_some_iff.1 hiy
      obtain ⟨hi, hz2⟩ := List.getElem?_eq_some_iff.1 hz
      simp only [List.length_attach, List.length_range] at hi
      refine ⟨hi, ?_⟩
      have : z.1 = i := by rw [← hz2]; simp
      congr 1
      subst this
      rfl
    obtain ⟨l, hll, hl⟩ := hl
    refine ⟨l, ⟨some a, cap, by rw [hll], by omega, rfl, by rw [hll]; simp only [maxLen] at hcm; omega, fun hp => ⟨a, rfl, fun j p hj => ?_⟩⟩, ?_⟩
    · obtain ⟨h, rfl⟩ := hl j p hj
      obtain ⟨c, hc, hk⟩ := (Classical.choose_spec (hy j h)).1
      obtain ⟨c1, c2⟩ := cells_at hc
      refine ⟨c, by rw [c1, hsz], hk, fun i u hu => ?_⟩
      have := c2 i u hu
      rw [hsz] at this
      rw [← Addr.add_add]
      exact this
    · intro y hyl
      obtain ⟨i, hi, rfl⟩ := List.getElem_of_mem hyl
      obtain ⟨h, e⟩ := hl i _ (List.getElem?_eq_getElem hi)
      rw [e]
      exact (Classical.choose_spec (hy i h)).2
theorem split_at {α : Type} (cs : List α) (off sz : Nat) : cs.drop off = (cs.drop off).take sz ++ cs.drop (off + sz) := by
  rw [← List.drop_drop, List.take_append_drop]
theorem last_at {α : Type} (cs : List α) (off sz n : Nat) (h : cs.length = n) (hn : off + sz = n) : (cs.drop off).take sz = cs.drop off := List.take_of_length_le (by simp; omega)
end
end Go.Proofs.Ytplchdlcolepmaa.O
