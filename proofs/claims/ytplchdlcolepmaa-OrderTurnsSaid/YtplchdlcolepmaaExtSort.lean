/-
  What slices.SortFunc with the comparison of places, and slices.Delete, make of a list of places that the call has made. Contracts of their calls over this seat's translation. Conditions: the places are those of the things.
-/
import Derived.Test.YtplchdlcolepmaaExtFree
import Derived.Test.YtplchdlcolepmaaShelf
import Derived.Test.YtplchdlcolepmaaFSpec
import Derived.Sort.OwnSortedInts
namespace Go.Proofs.Ytplchdlcolepmaa.P
open Go.RowKit Go.Maps Go.Lib Go.Sort Go.Shelf Go.Proofs.Ytplchdlcolepmaa.M Go.Proofs.YtplchdlcolepmaaW.PrintWords Go.Proofs.YtplchdlcolepmaaW.PrintLast
set_option linter.unusedVariables false
set_option linter.unusedSimpArgs false

def idxs (n : Nat) : List Int := (List.range n).map fun (i : Nat) => (i : Int)
theorem idxs_len (n : Nat) : (idxs n).length = n := by simp [idxs]
theorem idxs_mem (n : Nat) (x : Int) : x ∈ idxs n ↔ 0 ≤ x ∧ x < n := by
  unfold idxs
  simp only [List.mem_map, List.mem_range]
  constructor
  · rintro ⟨i, h, rfl⟩; omega
  · rintro ⟨h0, h1⟩; exact ⟨x.toNat, by omega, by omega⟩
theorem idxs_succ (n : Nat) : idxs (n + 1) = idxs n ++ [(n : Int)] := by simp [idxs, List.range_succ]
def sortV (l : List It) (bs : List Int) : List Int := (idxs l.length).mergeSort fun x y => !decide (cfO l bs y x < 0)

/-! ### the comparison is a strict order that parts whatever two -/
theorem cmpI_zero (a b : Int) : cmpI a b = 0 ↔ a = b := by unfold cmpI; split <;> (try split) <;> omega
theorem orL_four (a b c d : Int) : orL [a, b, c, d] = if a = 0 then (if b = 0 then (if c = 0 then (if d = 0 then 0 else d) else c) else b) else a := by
  simp only [orL]
theorem cfO_lt (l : List It) (bs : List Int) (i k : Int) : cfO l bs i k < 0 ↔ rd bs i < rd bs k ∨ rd bs i = rd bs k ∧ ((rdI l i).f4 < (rdI l k).f4 ∨ (rdI l i).f4 = (rdI l k).f4 ∧ ((rdI l i).f5 < (rdI l k).f5 ∨ (rdI l i).f5 = (rdI l k).f5 ∧ (rdI l i).f0 < (rdI l k).f0)) := by
  unfold cfO
  rw [orL_four]
  unfold cmpI
  repeat' split
  all_goals omega

abbrev Ix (n : Nat) : Type := { i : Int // 0 ≤ i ∧ i < n }
def encIx (n : Nat) (x : Ix n) : Value := .int .i64 x.1
def cfX (l : List It) (bs : List Int) (x y : Ix l.length) : Int := cfO l bs x.1 y.1
theorem swoX (l : List It) (bs : List Int) : SWO (ltOf (cfX l bs)) where
  irrefl x := by
    have h := cfO_lt l bs x.1 x.1
    unfold ltOf cfX
    rw [decide_eq_false_iff_not, h]; omega
  trans x y z h1 h2 := by
    unfold ltOf cfX at *
    rw [decide_eq_true_eq] at *
    rw [cfO_lt] at *
    omega
  ntrans x y z h1 h2 := by
    unfold ltOf cfX at *
    rw [decide_eq_false_iff_not] at *
    rw [cfO_lt] at *
    omega
theorem rdI_inj (l : List It) (h : (l.map (·.f0)).Nodup) (i k : Int) (hi0 : 0 ≤ i) (hi1 : i < l.length) (hk0 : 0 ≤ k) (hk1 : k < l.length) (e : (rdI l i).f0 = (rdI l k).f0) : i = k := by
  have h1 : i.toNat < l.length := by omega
  have h2 : k.toNat < l.length := by omega
  have hi : rdI l i = l[i.toNat] := by
    unfold rdI rd_T38
    rw [List.getD_eq_getElem?_getD, List.getElem?_eq_getElem h1]; rfl
  have hk : rdI l k = l[k.toNat] := by
    unfold rdI rd_T38
    rw [List.getD_eq_getElem?_getD, List.getElem?_eq_getElem h2]; rfl
  rw [hi, hk] at e
  have := (List.getElem_inj (xs := l.map (·.f0)) (h₀ := by simpa using h1) (h₁ := by simpa using h2) h).mp (by simpa using e)
  omega
theorem totX (l : List It) (bs : List Int) (h : (l.map (·.f0)).Nodup) (x y : Ix l.length) (h1 : ltOf (cfX l bs) x y = false) (h2 : ltOf (cfX l bs) y x = false) : x = y := by
  unfold ltOf cfX at h1 h2
  rw [decide_eq_false_iff_not, cfO_lt] at h1 h2
  exact Subtype.ext (rdI_inj l h x.1 y.1 x.2.1 x.2.2 y.2.1 y.2.2 (by omega))

/-! ### the row -/
theorem toIx (n : Nat) : ∀ (xs : List Int), (∀ x ∈ xs, 0 ≤ x ∧ x < n) → ∃ ys : List (Ix n), ys.map (·.1) = xs
  | [], _ => ⟨[], rfl⟩
  | x :: xs, h => by
    obtain ⟨ys, hy⟩ := toIx n xs (fun y hy => h y (by simp [hy]))
    exact ⟨⟨x, h x (by simp)⟩ :: ys, by simp [hy]⟩
theorem putCells_ix {n : Nat} [Inhabited (Ix n)] (d : List (Ix n)) (c : Array Value) : putCells (encIx n) 0 d.toArray c = putCells (Value.int .i64) 0 (d.map (·.1)).toArray c := by
  unfold putCells
  apply Array.ext_getElem?
  intro k
  simp only [Array.getElem?_mapIdx]
  cases c[k]? with
  | none => rfl
  | some y =>
    simp only [Option.map_some]
    by_cases hr : 0 ≤ k ∧ k < 0 + d.toArray.size
    · rw [if_pos hr, if_pos (by simpa using hr)]
      have hk : k < d.length := by simpa using hr
      simp [encIx, hk]
    · rw [if_neg hr, if_neg (by simpa using hr)]
theorem putRow_ix {n : Nat} [Inhabited (Ix n)] (w : World) (g : Nat) (d : List (Ix n)) : putRow (encIx n) w g 0 d.toArray = putRow (Value.int .i64) w g 0 (d.map (·.1)).toArray := by
  unfold putRow
  congr 1
  funext c
  exact putCells_ix d c
theorem row_parts {w : World} {base g n cap : Nat} {xs : List Int} (h : Kd.R (Kd.int .i64) 3 w base (fun _ => True) (.slice (some ⟨g, 0, none⟩) n cap) xs) :
    n = xs.length ∧ base ≤ g ∧ ∃ cur, w.heap[g]? = some (.cells cur 3 (0, 0)) ∧ xs.length ≤ cap ∧ cap ≤ maxLen ∧ cur.size = cap * 1 ∧ cur.toList.take xs.length = xs.map (Value.int .i64) := by
  obtain ⟨hn, _, hC⟩ := Kd.R_reads' h
  subst hn
  obtain ⟨inner, hown⟩ := Kd.R_own h
  refine ⟨rfl, ?_⟩
  rcases hown.2 with ⟨h0, _⟩ | ⟨g', cap', cur, hv, hg, hb, h1, h2, h3, h4⟩
  · cases h0
  · cases hv
    refine ⟨hg, cur, hb, h1, h2, h3, ?_⟩
    apply List.ext_getElem?
    intro j
    by_cases hj : j < xs.length
    · rw [List.getElem?_take_of_lt hj, Array.getElem?_toList]
      obtain ⟨ad, hA, hc⟩ := elem_at hC j hj
      injection hA with hA
      subst hA
      rw [add_plain, cell_of hb] at hc
      rw [hc, List.getElem?_map, List.getElem?_eq_getElem hj]; rfl
    · rw [List.getElem?_take_eq_none (by omega), List.getElem?_eq_none (by simp; omega)]
theorem row_made {w : World} {base g cap : Nat} {cur : Array Value} {xs : List Int} (hg : base ≤ g) (hb : w.heap[g]? = some (.cells cur 3 (0, 0))) (h1 : xs.length ≤ cap) (h2 : cap ≤ maxLen) (h3 : cur.size = cap * 1) (h4 : cur.toList.take xs.length = xs.map (Value.int .i64)) :
    Kd.R (Kd.int .i64) 3 w base (fun _ => True) (.slice (some ⟨g, 0, none⟩) xs.length cap) xs := by
  refine ⟨fun _ _ => trivial, xs.map (Value.int .i64), ⟨?_, .inr ⟨g, cap, cur, rfl, hg, hb, h1, h2, h3, ?_⟩⟩, ?_⟩
  · show (xs.map (Value.int .i64)).length = xs.length * 1
    simp
  · show cur.toList.take (xs.length * 1) = _
    rw [Nat.mul_one]; exact h4
  · refine ⟨by show _ = _ * 1; simp, fun j p h => ?_⟩
    have hj : j < xs.length := by
      rcases Nat.lt_or_ge j xs.length with h' | h'
      · exact h'
      · rw [List.getElem?_eq_none h'] at h; cases h
    have hp : xs[j] = p := by rw [List.getElem?_eq_getElem hj] at h; exact Option.some.inj h
    show ((xs.map (Value.int .i64)).drop (j * 1)).take 1 = [Value.int .i64 p]
    rw [Nat.mul_one, List.drop_eq_getElem_cons (by simpa using hj), List.take_succ_cons, List.take_zero, List.getElem_map, hp]

theorem holds_row {w : World} {g : Nat} {cur : Array Value} {n : Nat} [Inhabited (Ix n)] (d : List (Ix n)) (hb : w.heap[g]? = some (.cells cur 3 (0, 0))) (h4 : cur.toList.take (d.map (·.1)).length = (d.map (·.1)).map (Value.int .i64)) : Holds (encIx n) w g 0 d.toArray := by
  have h := holds_of_blockI hb h4
  intro j hj
  have hj' : j < d.length := by simpa using hj
  have := h j (by simpa using hj')
  refine ⟨this.1.trans ?_, this.2⟩
  simp [encIx, hj']
/-- all that lies below a row that is put stays -/
theorem below_put {wb W : World} {g : Nat} (hb : Below wb.heap.size wb W) (hg : wb.heap.size ≤ g) (m : Nat) (d : Array Int) (os : Array Obj) : Below wb.heap.size wb (grow (putRow (Value.int .i64) (Sort.ahead W m) g 0 d) os) :=
  hb.grown (grownBy_sortedI (n := m) (os := os) d) hb.size (fun j hj => by cases hj; exact hg)

set_option maxHeartbeats 1000000 in
theorem sort_todo (wb : World) (p1 p6 : Nat) (A0 A6 : Option Addr) (c0 c6 : Nat) (l0 : List It) (bs : List Int) (h : Caught wb p1 p6 A0 A6 c0 c6 l0 bs) (nd : (l0.map (·.f0)).Nodup) (hn : 0 < l0.length) (hlen : l0.length ≤ 128)
    (g cap : Nat) (W : World) (hb : Below wb.heap.size wb W) (HO : Kd.R (Kd.int .i64) 3 W wb.heap.size (fun _ => True) (.slice (some ⟨g, 0, none⟩) l0.length cap) (idxs l0.length)) :
    Calls Try.prog 26 #[.slice (some ⟨g, 0, none⟩) l0.length cap, .func (.func 27) #[] #[.pointer (some ⟨p6, 0, none⟩), .pointer (some ⟨p1, 0, none⟩)]] W fun e w' =>
      e = .returned (.tuple #[]) ∧ Kd.R (Kd.int .i64) 3 w' wb.heap.size (fun _ => True) (.slice (some ⟨g, 0, none⟩) l0.length cap) (sortV l0 bs) ∧ Below wb.heap.size wb w' := by
  obtain ⟨_, hg, cur, hcur, h1, h2, h3, h4⟩ := row_parts HO
  letI : Inhabited (Ix l0.length) := ⟨⟨0, by omega, by omega⟩⟩
  obtain ⟨d, hd⟩ := toIx l0.length (idxs l0.length) (fun x hx => (idxs_mem _ _).mp hx)
  have hdl : d.length = l0.length := by have := congrArg List.length hd; rw [List.length_map, idxs_len] at this; exact this
  have hgl : g < W.heap.size := (Array.getElem?_eq_some_iff.1 hcur).1
  have hH : Holds (encIx l0.length) W g 0 d.toArray := holds_row d hcur (by rw [hd]; exact h4)
  have eg : ∀ args w, (callFunc 27 args).run Try.prog w = .ok (.enter 27 args) w := enters_of Try.func27 (by kernel_rfl) rfl
  have hcmp : CmpLays1 Try.prog 27 #[.pointer (some ⟨p6, 0, none⟩), .pointer (some ⟨p1, 0, none⟩)] (encIx l0.length) (cfX l0 bs) g 0 d.toArray.size W := by
    intro m os dk hs x y
    have hw : sortWorld (encIx l0.length) W g 0 m dk os = grow (putRow (Value.int .i64) (Sort.ahead W m) g 0 (dk.toList.map (·.1)).toArray) os := by
      unfold sortWorld
      rw [← putRow_ix, Array.toArray_toList]
    have := closure_any wb p1 p6 A0 A6 c0 c6 l0 bs h x.1 y.1 x.2.1 x.2.2 y.2.1 y.2.2 (sortWorld (encIx l0.length) W g 0 m dk os) (by rw [hw]; exact below_put hb hg m _ os)
    exact this
  have hS := Try.slices_SortFunc_total (encIx l0.length) (fun _ => rfl) (cfX l0 bs) (swoX l0 bs) 27 #[.pointer (some ⟨p6, 0, none⟩), .pointer (some ⟨p1, 0, none⟩)] g 0 cap d.toArray W eg hcmp hH hgl (by rw [List.size_toArray, hdl]; omega) (totX l0 bs nd)
  rw [List.size_toArray, hdl] at hS
  refine hS.mono ?_
  rintro e w' ⟨rfl, m, os, rfl⟩
  have hsv : (d.mergeSort fun x y => !(ltOf (cfX l0 bs)) y x).map (·.1) = sortV l0 bs := by
    unfold sortV
    rw [← hd]
    exact List.map_mergeSort (fun a _ b _ => rfl)
  have hw : sortWorld (encIx l0.length) W g 0 m (d.mergeSort fun x y => !(ltOf (cfX l0 bs)) y x).toArray os = grow (putRow (Value.int .i64) (Sort.ahead W m) g 0 (sortV l0 bs).toArray) os := by
    unfold sortWorld
    rw [putRow_ix, hsv]
  have hsl : (sortV l0 bs).length = (idxs l0.length).length := by unfold sortV; simp
  refine ⟨rfl, ?_, ?_⟩
  · show Kd.R _ _ (sortWorld (encIx l0.length) W g 0 m (d.mergeSort fun x y => !(ltOf (cfX l0 bs)) y x).toArray os) _ _ _ _
    rw [hw]
    have hs := hsl
    rw [idxs_len] at hs
    have := row_made (base := wb.heap.size) (g := g) (cap := cap) (xs := sortV l0 bs) hg (heap_sortedI (n := m) (os := os) (sortV l0 bs).toArray hcur) (by omega) h2 (by simp [putCells, h3]) (take_putCellsI cur _ (by omega))
    rw [hs] at this
    exact this
  · show Below _ _ (sortWorld (encIx l0.length) W g 0 m (d.mergeSort fun x y => !(ltOf (cfX l0 bs)) y x).toArray os)
    rw [hw]
    exact below_put hb hg m _ os

theorem sort_all (wb : World) (p1 p6 : Nat) (A0 A6 : Option Addr) (c0 c6 : Nat) (l0 : List It) (bs : List Int) (h : Caught wb p1 p6 A0 A6 c0 c6 l0 bs) (nd : (l0.map (·.f0)).Nodup) (hlen : l0.length ≤ 128)
    (A : Option Addr) (cap : Nat) (W : World) (hb : Below wb.heap.size wb W) (HO : Kd.R (Kd.int .i64) 3 W wb.heap.size (fun _ => True) (.slice A l0.length cap) (idxs l0.length)) :
    Calls Try.prog 26 #[.slice A l0.length cap, .func (.func 27) #[] #[.pointer (some ⟨p6, 0, none⟩), .pointer (some ⟨p1, 0, none⟩)]] W fun e w' =>
      e = .returned (.tuple #[]) ∧ Kd.R (Kd.int .i64) 3 w' wb.heap.size (fun _ => True) (.slice A l0.length cap) (sortV l0 bs) ∧ Below wb.heap.size wb w' := by
  rcases Nat.eq_zero_or_pos l0.length with hz | hn
  · have h0 : sortV l0 bs = idxs l0.length := by
      have hl : (sortV l0 bs).length = 0 := by unfold sortV; simp [idxs_len, hz]
      rw [List.eq_nil_of_length_eq_zero hl, hz]; rfl
    rw [h0]
    have hS := Try.slices_SortFunc_none (α := Int) A cap (.func (.func 27) #[] #[.pointer (some ⟨p6, 0, none⟩), .pointer (some ⟨p1, 0, none⟩)]) W
    rw [hz] at HO ⊢
    refine hS.mono ?_
    rintro e w' ⟨rfl, rfl⟩
    exact ⟨rfl, HO, hb⟩
  · obtain ⟨g, c, he, _⟩ := Kd.R_form HO (by rw [idxs_len]; exact hn)
    injection he with h1 h2 h3
    subst h1
    exact sort_todo wb p1 p6 A0 A6 c0 c6 l0 bs h nd hn hlen g cap W hb HO

theorem delete_todo {wb W : World} {g cap n : Nat} {todo : List Int} (hb : Below wb.heap.size wb W) (HO : Kd.R (Kd.int .i64) 3 W wb.heap.size (fun _ => True) (.slice (some ⟨g, 0, none⟩) n cap) todo) (i : Nat) (hi : i < n) (hcap : cap ≤ 9223372036854775807) :
    Calls Try.prog 33 #[.slice (some ⟨g, 0, none⟩) n cap, .int .i64 i, .int .i64 ((i : Int) + 1)] W fun e w' =>
      e = .returned (.slice (some ⟨g, 0, none⟩) (n - 1) cap) ∧ Kd.R (Kd.int .i64) 3 w' wb.heap.size (fun _ => True) (.slice (some ⟨g, 0, none⟩) (n - 1) cap) (todo.eraseIdx i) ∧ Below wb.heap.size wb w' ∧ W.grownBy w' (some g) := by
  obtain ⟨rfl, hg, cur, hcur, h1, h2, h3, h4⟩ := row_parts HO
  have hD := Try.slices_Delete_int g 0 cap i (i + 1) todo W (holds_of_blockI hcur h4) h1 hcap (by omega) (by omega)
  rw [show todo.length - (i + 1 - i) = todo.length - 1 by omega, show i + 1 - i = 1 by omega] at hD
  have hc : ((i + 1 : Nat) : Int) = (i : Int) + 1 := by omega
  rw [hc] at hD
  refine hD.mono ?_
  rintro e w' ⟨rfl, q, rfl⟩
  have hlt : todo.eraseIdx i = todo.take i ++ todo.drop (i + 1) := List.eraseIdx_eq_take_drop_succ todo i
  have hel : (todo.eraseIdx i).length = todo.length - 1 := List.length_eraseIdx_of_lt hi
  have hgr := grow_empty (putRow (Value.int .i64) (Sort.ahead W q) g 0 (todo.take i ++ todo.drop (i + 1) ++ List.replicate 1 0).toArray)
  refine ⟨rfl, ?_, ?_, ?_⟩
  · rw [← hgr]
    have hh := heap_sortedI (n := q) (os := #[]) (todo.take i ++ todo.drop (i + 1) ++ List.replicate 1 0).toArray hcur
    have ht := take_putCellsI cur (todo.take i ++ todo.drop (i + 1) ++ List.replicate 1 0) (by simp; omega)
    have := row_made (base := wb.heap.size) (g := g) (cap := cap) (xs := todo.eraseIdx i) hg hh (by omega) h2 (by simp [putCells, h3]) (by
      have h5 := congrArg (List.take (todo.eraseIdx i).length) ht
      rw [List.take_take, ← List.map_take, ← hlt, List.take_left] at h5
      rw [← hlt]
      rw [Nat.min_eq_left (by simp)] at h5
      exact h5)
    rw [hel] at this
    exact this
  · rw [← hgr]
    exact below_put hb hg q _ #[]
  · rw [← hgr]
    exact grownBy_sortedI _
end Go.Proofs.Ytplchdlcolepmaa.P
