/-
  The chapter's examples, and what the laws of the chapter order have in common: lists held one against the other; where a client stands. Plain Lean.
-/
import Derived.Test.YtplchdlcolepmaaOOrd
import Derived.Test.YtplchdlcolepmaaOpen
import Derived.Test.YtplchdlcolepmaaPx5
import Derived.Test.YtplchdlcolepmaaPx7
namespace Go.Proofs.Ytplchdlcolepmaa.G
open Go.Proofs.Ytplchdlcolepmaa.P Go.Proofs.Ytplchdlcolepmaa.E Go.Proofs.Ytplchdlcolepmaa.O Go.RowKit Go.Proofs.YtplchdlcolepmaaW.PrintWords Go.Proofs.YtplchdlcolepmaaW.PrintLast
set_option linter.unusedVariables false
set_option linter.unusedSimpArgs false

theorem wf_good {x : It} (h : good38 x) : wfIt x := by
  obtain ⟨a, b, c, _, d, e⟩ := h
  exact ⟨a, b, c, d, e⟩
theorem ints_same (a : List Int) (h : a.length ≤ 9223372036854775000) : Ev (fun k => casementref03_Ints.f k a a) true := by
  have key : ∀ (d j : Nat), j + d = a.length → Ev (fun k => casementref03_Ints.l0 k a a (j : Int)) true := by
    intro d
    induction d with
    | zero =>
      intro j hj
      refine Ev.step (fun _ => by rw [casementref03_Ints.l0]) ?_
      exact Ev.neg (by omega) (Ev.fin rfl)
    | succ d ih =>
      intro j hj
      refine Ev.step (fun _ => by rw [casementref03_Ints.l0]) ?_
      refine Ev.pos (by omega) (Ev.pos (by omega) (Ev.pos (by omega) (Ev.pos rfl ?_)))
      rw [wadd1 (by omega)]
      exact ih (j + 1) (by omega)
  unfold casementref03_Ints.f
  exact Ev.pos rfl (key a.length 0 (by omega))
def exL : List It := [⟨1, 1, 0, false, 0, 0⟩, ⟨2, 2, 3, false, 0, 0⟩, ⟨3, 4, 0, false, 0, 0⟩]
def exR : List It := [⟨1, 0, 2, false, 0, 0⟩, ⟨2, 0, 1, false, 0, 5⟩]
theorem ex_sort : sortV exL (bandsV exL) = idxs exL.length := by
  unfold sortV
  exact List.mergeSort_of_pairwise (by decide +kernel)
theorem ex_order : order_Order.f exL = some ([1, 3, 2], 0) := by
  have hc : order_Check.f exL = some 0 := by decide +kernel
  have hb : bandsOK exL := by decide +kernel
  unfold order_Order.f orderV
  rw [hc, ex_sort, Option.bind_some, if_pos rfl, if_pos hb]
  decide +kernel
theorem ex_bands : order_Bands.f exL = some [1, 4, 4] := by decide +kernel
theorem ex_owners : order_Owners.f exR = some [2, 0] := by decide +kernel
theorem awake_ev : Ev (fun k => casementlaw16_awake.f k) true := by
  have e1 := ex_order
  have e2 := ex_bands
  have e3 := ex_owners
  unfold exL at e1 e2
  unfold exR at e3
  unfold casementlaw16_awake.f
  refine Ev.bind (Ev.con rfl) (Ev.bind (Ev.con e1) (Ev.pos rfl (Ev.bind (ints_same _ (by decide)) (Ev.pos rfl (Ev.bind (Ev.con e2) (Ev.bind (ints_same _ (by decide)) (Ev.pos rfl (Ev.bind (Ev.con e3) (Ev.bind (ints_same _ (by decide)) (Ev.fin rfl))))))))))

/-! ### where a client stands -/
theorem where_go (a : List Int) (c : Int) (ha : a.length ≤ 9223372036854775000) : ∀ (d j : Nat), j + d = a.length → Ev (fun k => casementlaw16_where.l0 k a c (j : Int)) (match (a.drop j).findIdx? (· == c) with | some i => ((j + i : Nat) : Int) | none => -1) := by
  intro d
  induction d with
  | zero =>
    intro j hj
    refine Ev.step (fun _ => by rw [casementlaw16_where.l0]) ?_
    rw [List.drop_of_length_le (by omega)]
    exact Ev.neg (by omega) (Ev.fin rfl)
  | succ d ih =>
    intro j hj
    have hjl : j < a.length := by omega
    refine Ev.step (fun _ => by rw [casementlaw16_where.l0]) ?_
    refine Ev.pos (by omega) (Ev.pos (by omega) ?_)
    have hrd : rd a (j : Int) = a[j] := by
      unfold rd; rw [Int.toNat_natCast, List.getD_eq_getElem?_getD, List.getElem?_eq_getElem hjl]; rfl
    rw [List.drop_eq_getElem_cons hjl, List.findIdx?_cons]
    by_cases e : a[j] = c
    · rw [if_pos (by simpa using e)]
      exact Ev.pos (by rw [hrd]; exact e) (Ev.fin rfl)
    · rw [if_neg (by simpa using e)]
      refine Ev.neg (by rw [hrd]; exact e) ?_
      rw [wadd1 (by omega)]
      refine E.Ev.cast (ih (j + 1) (by omega)) ?_
      cases (a.drop (j + 1)).findIdx? (· == c) with
      | none => rfl
      | some i => show ((j + 1 + i : Nat) : Int) = ((j + (i + 1) : Nat) : Int); omega
/-- where a thing stands in a row of things without repeats -/
theorem Good.where_ {l : List It} (gd : Good l) {s : List Nat} (hs : ∀ i ∈ s, i < l.length) (hn : s.Nodup) (hl : s.length ≤ 128) {m : Nat} (hm : m < s.length) : Ev (fun k => casementlaw16_where.f k (s.map (cl l)) (cl l s[m])) (m : Int) := by
  have h := where_go (s.map (cl l)) (cl l s[m]) (by simp; omega) s.length 0 (by simp)
  unfold casementlaw16_where.f
  refine E.Ev.cast h ?_
  rw [List.drop_zero]
  have hf : (s.map (cl l)).findIdx? (· == cl l s[m]) = some m := by
    rw [List.findIdx?_eq_some_iff_getElem]
    refine ⟨by simpa using hm, by simp, ?_⟩
    intro j hj
    simp only [List.getElem_map, Bool.not_eq_true, beq_eq_false_iff_ne]
    intro e
    have := gd.inj (hs _ (List.getElem_mem (by omega))) (hs _ (List.getElem_mem hm)) e
    have := (List.getElem_inj hn).mp this
    omega
  rw [hf]
  show ((0 + m : Nat) : Int) = m
  omega
/-- the place of a thing's client -/
theorem Good.place {l : List It} (gd : Good l) {i : Nat} (hi : i < l.length) : Ev (fun k => casementref16_Place.f k l (cl l i)) (i : Int) := by
  refine E.Ev.cast (ref_place l (cl l i) gd.sh) ?_
  rw [idxF_pl, gd.pl_at hi]
  show (0 : Int) + (i : Int) = i
  omega
theorem rd_cl {l : List It} {s : List Nat} {m : Nat} (hm : m < s.length) : rd (s.map (cl l)) (m : Int) = cl l s[m] := by
  unfold rd
  rw [Int.toNat_natCast, List.getD_eq_getElem?_getD, List.getElem?_map, List.getElem?_eq_getElem hm]; rfl
end Go.Proofs.Ytplchdlcolepmaa.G
