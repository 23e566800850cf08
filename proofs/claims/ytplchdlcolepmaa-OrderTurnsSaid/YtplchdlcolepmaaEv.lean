/-
  Small laws on functions with a number of rounds: what such a function tells from some number of rounds on. No conditions.
-/
import Derived.Test.YtplchdlcolepmaaWWords
namespace Go.Proofs.Ytplchdlcolepmaa.E
open Go.RowKit Go.Proofs.YtplchdlcolepmaaW.PrintWords
set_option linter.unusedVariables false
set_option linter.unusedSimpArgs false

theorem Ev.pos {α : Type} {c : Prop} [Decidable c] {a b : Nat → Option α} {r : α} (h : c) (k : Ev a r) : Ev (fun n => if c then a n else b n) r :=
  Ev.congr (fun n => if_pos h) k
theorem Ev.neg {α : Type} {c : Prop} [Decidable c] {a b : Nat → Option α} {r : α} (h : ¬ c) (k : Ev b r) : Ev (fun n => if c then a n else b n) r :=
  Ev.congr (fun n => if_neg h) k
theorem Ev.con {α : Type} {x : Option α} {r : α} (h : x = some r) : Ev (fun _ => x) r := ⟨0, fun _ _ => h⟩
theorem Ev.fin {α : Type} {x r : α} (h : x = r) : Ev (fun _ => some x) r := ⟨0, fun _ _ => by rw [h]⟩
theorem Ev.cast {α : Type} {g : Nat → Option α} {x r : α} (h : Ev g x) (e : x = r) : Ev g r := by rw [← e]; exact h
theorem Ev.uniq {α : Type} {g : Nat → Option α} {x r : α} (h : Ev g x) (h' : Ev g r) : x = r := by
  obtain ⟨K, h⟩ := h
  obtain ⟨K', h'⟩ := h'
  have a := h (max K K') (by omega)
  rw [h' (max K K') (by omega)] at a
  exact (Option.some.inj a).symm
theorem w64 {n : Int} (h1 : -9223372036854775808 ≤ n) (h2 : n ≤ 9223372036854775807) : wrap64 n = n := by unfold wrap64; omega

theorem wadd {a b : Nat} (h : a + b ≤ 9223372036854775807) : wrap64 ((a : Int) + (b : Int)) = ((a + b : Nat) : Int) := by rw [w64] <;> omega
theorem wadd1 {a : Nat} (h : a + 1 ≤ 9223372036854775807) : wrap64 ((a : Int) + 1) = ((a + 1 : Nat) : Int) := by rw [w64] <;> omega
theorem all8 {P : UInt8 → Prop} (h : ∀ i : Fin 256, P (UInt8.ofFin i)) (u : UInt8) : P u := by
  have := h u.toFin
  simpa using this
theorem bt_cons {s : ByteArray} {k : Nat} {u : UInt8} {l : List UInt8} (h : s.data.toList.drop k = u :: l) : k < s.size ∧ bt s (k : Int) = (u.toNat : Int) ∧ s.data.toList.drop (k + 1) = l := by
  have hlt : k < s.data.toList.length := by
    rcases Nat.lt_or_ge k s.data.toList.length with h' | h'
    · exact h'
    · rw [List.drop_of_length_le h'] at h; exact absurd h (by simp)
  have hs : k < s.size := by simpa using hlt
  rw [List.drop_eq_getElem_cons hlt] at h
  injection h with h1 h2
  refine ⟨hs, ?_, h2⟩
  have hk : ((k : Int).toNat) < s.size := by simpa using hs
  unfold bt
  rw [dif_pos hk, ← h1]
  rfl
theorem drop_nil {s : ByteArray} {k : Nat} (h : s.data.toList.drop k = []) : s.size ≤ k := by
  have := List.drop_eq_nil_iff.mp h
  simpa using this
theorem drop_len (s : ByteArray) (k : Nat) : (s.data.toList.drop k).length = s.size - k := by simp
theorem ext_take (s : ByteArray) (a b : Nat) : s.extract a b = ⟨((s.data.toList.drop a).take (b - a)).toArray⟩ := by
  apply ByteArray.ext
  rw [ByteArray.data_extract]
  apply Array.ext'
  simp [Array.toList_extract, List.extract_eq_take_drop]
theorem ext_data (s : ByteArray) (a b : Nat) : (s.extract a b).data.toList = (s.data.toList.drop a).take (b - a) := by rw [ext_take]
end Go.Proofs.Ytplchdlcolepmaa.E
