/-
  What the given program's order.Order computes: the contract of its calls over this seat's translation. Conditions: the items' numbers are of 64 bits; chains of owners end; there is always a thing that is free.
-/
import Derived.Test.YtplchdlcolepmaaExtSort
import Derived.Test.YtplchdlcolepmaaAnyInv
import Derived.Deep.RegionHeld3
import Derived.Deep.DeepCutAuto
import Derived.Deep.CutRange
namespace Go.Proofs.Ytplchdlcolepmaa.P
open Go.RowKit Go.Maps Go.Proofs.Ytplchdlcolepmaa.M Go.Proofs.YtplchdlcolepmaaW.PrintWords Go.Proofs.YtplchdlcolepmaaW.PrintLast
set_option linter.unusedVariables false
set_option linter.unusedSimpArgs false

def orderGo (l : List It) (os : List Int) : Nat → List Int → List Int → Option (List Int)
  | 0, todo, out => if todo = [] then some out else none
  | f + 1, todo, out => if todo = [] then some out else
      if firstP (freeB os out) todo 0 < 0 then none else orderGo l os f (todo.eraseIdx (firstP (freeB os out) todo 0).toNat) (out ++ [(rdI l (rd todo (firstP (freeB os out) todo 0))).f0])
def orderV (l : List It) : Option (List Int) := orderGo l (ownersL l) l.length (sortV l (bandsV l)) []
def order_Order.f (l0 : List It) : Option (List Int × Int) := (order_Check.f l0).bind fun e => if e = 0 then (if bandsOK l0 then (orderV l0).bind fun r => some (r, 0) else none) else some ([], e)

theorem bands_z (A0 : Option Addr) (c0 : Nat) (l0 : List It) (w : World) (hr0 : Kd.C k38 w A0 l0.length l0) (hw : ∀ x ∈ l0, wfIt x) (hc : chkV l0 = 0) (hOK : bandsOK l0) :
    Calls Try.prog 14 #[.slice A0 l0.length c0] w fun e w' => ∃ A9 c9, e = .returned (.slice A9 l0.length c9) ∧ Kd.R (Kd.int .i64) 3 w' w.heap.size (fun _ => True) (.slice A9 l0.length c9) (bandsV l0) ∧ Below w.heap.size w w' := by
  refine (bands_any A0 c0 l0 w hr0 hw (fun _ => hOK)).mono ?_
  rw [if_pos hc]
  rintro e w1 ⟨v, rfl, h1, h2⟩
  obtain ⟨A9, c9, rfl⟩ := Kd.R_slice h1
  rw [bandsV_len] at h1 ⊢
  exact ⟨A9, c9, rfl, h1, h2⟩

/-! ### 'owners, bands := Owners(l), Bands(l)', both caught: in whatever order -/
def T17 (A0 : Option Addr) (n c0 p1 : Nat) (u5 u6 u16 u17 u18 u19 : Value) : Act :=
  { tmps := #[.slice A0 n c0, .pointer (some ⟨p1, 0, none⟩), .slice none 0 0, .int .i64 0, .int .i64 0, u5, u6, undef, undef, undef, undef, .slice A0 n c0, .int .i64 0, .int .i64 0, .bool false, undef, u16, u17, u18, u19, undef, undef, undef, undef, undef, undef, undef, undef, undef, undef, undef, undef, undef, undef, undef, undef, undef, undef, undef, undef, undef, undef, undef, undef, undef, undef, undef, undef, undef, undef, undef, undef, undef, undef, undef, undef, undef, undef, undef], defers := [] }
structure Inv17 (A0 : Option Addr) (n c0 p1 : Nat) (w1 : World) (os bs : List Int) (L : Array Bool) (w : World) (u5 u6 u16 u17 u18 u19 : Value) : Prop where
  sz : L.size = 8
  d6 : L.getD 6 false = true → L.getD 1 false = true ∧ L.getD 4 false = true
  d7 : L.getD 7 false = true → L.getD 3 false = true ∧ L.getD 5 false = true
  bel : Below w1.heap.size w1 w
  i0 : L.getD 0 false = true → u16 = .slice A0 n c0
  i1 : L.getD 1 false = true → ∃ A c, u17 = .slice A n c ∧ Kd.R (Kd.int .i64) 3 w w1.heap.size (fun _ => True) (.slice A n c) os
  i2 : L.getD 2 false = true → u18 = .slice A0 n c0
  i3 : L.getD 3 false = true → ∃ A c, u19 = .slice A n c ∧ Kd.R (Kd.int .i64) 3 w w1.heap.size (fun _ => True) (.slice A n c) bs
  i4 : L.getD 4 false = true → ∃ p v, u5 = .pointer (some ⟨p, 0, none⟩) ∧ w1.heap.size ≤ p ∧ w.heap[p]? = some (.cells #[v] 27 (0, 0)) ∧ (L.getD 6 false = true → v = u17)
  i5 : L.getD 5 false = true → ∃ p v, u6 = .pointer (some ⟨p, 0, none⟩) ∧ w1.heap.size ≤ p ∧ w.heap[p]? = some (.cells #[v] 27 (0, 0)) ∧ (L.getD 7 false = true → v = u19)
  i45 : L.getD 4 false = true → L.getD 5 false = true → u5 ≠ u6
section
variable {A0 : Option Addr} {n c0 p1 : Nat} {w1 : World} {os bs : List Int} {L : Array Bool} {w w' : World} {u5 u6 u16 u17 u18 u19 : Value}
/-- the world goes on, and no box is written -/
theorem Inv17.on (h : Inv17 A0 n c0 p1 w1 os bs L w u5 u6 u16 u17 u18 u19) (hb : Below w.heap.size w w') : Inv17 A0 n c0 p1 w1 os bs L w' u5 u6 u16 u17 u18 u19 where
  sz := h.sz
  d6 := h.d6
  d7 := h.d7
  bel := h.bel.trans (hb.mono h.bel.size)
  i0 := h.i0
  i1 := fun e => by obtain ⟨A, c, h1, h2⟩ := h.i1 e; exact ⟨A, c, h1, Kd.R_below h2 hb⟩
  i2 := h.i2
  i3 := fun e => by obtain ⟨A, c, h1, h2⟩ := h.i3 e; exact ⟨A, c, h1, Kd.R_below h2 hb⟩
  i4 := fun e => by obtain ⟨p, v, h1, h2, h3, h4⟩ := h.i4 e; exact ⟨p, v, h1, h2, (hb.block _ (Array.getElem?_eq_some_iff.1 h3).1).trans h3, h4⟩
  i5 := fun e => by obtain ⟨p, v, h1, h2, h3, h4⟩ := h.i5 e; exact ⟨p, v, h1, h2, (hb.block _ (Array.getElem?_eq_some_iff.1 h3).1).trans h3, h4⟩
  i45 := h.i45
theorem Inv17.s0 (h : Inv17 A0 n c0 p1 w1 os bs L w u5 u6 u16 u17 u18 u19) : Inv17 A0 n c0 p1 w1 os bs (L.setIfInBounds 0 true) w u5 u6 (.slice A0 n c0) u17 u18 u19 where
  sz := by simpa using h.sz
  d6 := by simp only [getD_set_other (i := 0) (j := 6) (by decide), getD_set_other (i := 0) (j := 1) (by decide), getD_set_other (i := 0) (j := 4) (by decide)]; exact h.d6
  d7 := by simp only [getD_set_other (i := 0) (j := 7) (by decide), getD_set_other (i := 0) (j := 3) (by decide), getD_set_other (i := 0) (j := 5) (by decide)]; exact h.d7
  bel := h.bel
  i0 := fun _ => rfl
  i1 := by rw [getD_set_other (by decide)]; exact h.i1
  i2 := by rw [getD_set_other (by decide)]; exact h.i2
  i3 := by rw [getD_set_other (by decide)]; exact h.i3
  i4 := by rw [getD_set_other (by decide), getD_set_other (by decide)]; exact h.i4
  i5 := by rw [getD_set_other (by decide), getD_set_other (by decide)]; exact h.i5
  i45 := by rw [getD_set_other (by decide), getD_set_other (by decide)]; exact h.i45
theorem Inv17.s2 (h : Inv17 A0 n c0 p1 w1 os bs L w u5 u6 u16 u17 u18 u19) : Inv17 A0 n c0 p1 w1 os bs (L.setIfInBounds 2 true) w u5 u6 u16 u17 (.slice A0 n c0) u19 where
  sz := by simpa using h.sz
  d6 := by simp only [getD_set_other (i := 2) (j := 6) (by decide), getD_set_other (i := 2) (j := 1) (by decide), getD_set_other (i := 2) (j := 4) (by decide)]; exact h.d6
  d7 := by simp only [getD_set_other (i := 2) (j := 7) (by decide), getD_set_other (i := 2) (j := 3) (by decide), getD_set_other (i := 2) (j := 5) (by decide)]; exact h.d7
  bel := h.bel
  i0 := by rw [getD_set_other (by decide)]; exact h.i0
  i1 := by rw [getD_set_other (by decide)]; exact h.i1
  i2 := fun _ => rfl
  i3 := by rw [getD_set_other (by decide)]; exact h.i3
  i4 := by rw [getD_set_other (by decide), getD_set_other (by decide)]; exact h.i4
  i5 := by rw [getD_set_other (by decide), getD_set_other (by decide)]; exact h.i5
  i45 := by rw [getD_set_other (by decide), getD_set_other (by decide)]; exact h.i45
theorem Inv17.s1 (h : Inv17 A0 n c0 p1 w1 os bs L w u5 u6 u16 u17 u18 u19) (hf : L.getD 1 false = false) (A : Option Addr) (c : Nat) (hr : Kd.R (Kd.int .i64) 3 w w1.heap.size (fun _ => True) (.slice A n c) os) : Inv17 A0 n c0 p1 w1 os bs (L.setIfInBounds 1 true) w u5 u6 u16 (.slice A n c) u18 u19 where
  sz := by simpa using h.sz
  d6 := by
    rw [getD_set_other (i := 1) (j := 6) (by decide)]
    intro e; exact absurd (hf.symm.trans (h.d6 e).1) (by decide)
  d7 := by simp only [getD_set_other (i := 1) (j := 7) (by decide), getD_set_other (i := 1) (j := 3) (by decide), getD_set_other (i := 1) (j := 5) (by decide)]; exact h.d7
  bel := h.bel
  i0 := by rw [getD_set_other (by decide)]; exact h.i0
  i1 := fun _ => ⟨A, c, rfl, hr⟩
  i2 := by rw [getD_set_other (by decide)]; exact h.i2
  i3 := by rw [getD_set_other (by decide)]; exact h.i3
  i4 := by
    rw [getD_set_other (by decide), getD_set_other (by decide)]
    intro e; obtain ⟨p, v, h1, h2, h3, h4⟩ := h.i4 e
    exact ⟨p, v, h1, h2, h3, fun e6 => absurd (hf.symm.trans (h.d6 e6).1) (by decide)⟩
  i5 := by rw [getD_set_other (by decide), getD_set_other (by decide)]; exact h.i5
  i45 := by rw [getD_set_other (by decide), getD_set_other (by decide)]; exact h.i45
theorem Inv17.s3 (h : Inv17 A0 n c0 p1 w1 os bs L w u5 u6 u16 u17 u18 u19) (hf : L.getD 3 false = false) (A : Option Addr) (c : Nat) (hr : Kd.R (Kd.int .i64) 3 w w1.heap.size (fun _ => True) (.slice A n c) bs) : Inv17 A0 n c0 p1 w1 os bs (L.setIfInBounds 3 true) w u5 u6 u16 u17 u18 (.slice A n c) where
  sz := by simpa using h.sz
  d6 := by simp only [getD_set_other (i := 3) (j := 6) (by decide), getD_set_other (i := 3) (j := 1) (by decide), getD_set_other (i := 3) (j := 4) (by decide)]; exact h.d6
  d7 := by
    rw [getD_set_other (i := 3) (j := 7) (by decide)]
    intro e; exact absurd (hf.symm.trans (h.d7 e).1) (by decide)
  bel := h.bel
  i0 := by rw [getD_set_other (by decide)]; exact h.i0
  i1 := by rw [getD_set_other (by decide)]; exact h.i1
  i2 := by rw [getD_set_other (by decide)]; exact h.i2
  i3 := fun _ => ⟨A, c, rfl, hr⟩
  i4 := by rw [getD_set_other (by decide), getD_set_other (by decide)]; exact h.i4
  i5 := by
    rw [getD_set_other (by decide), getD_set_other (by decide)]
    intro e; obtain ⟨p, v, h1, h2, h3, h4⟩ := h.i5 e
    exact ⟨p, v, h1, h2, h3, fun e6 => absurd (hf.symm.trans (h.d7 e6).1) (by decide)⟩
  i45 := by rw [getD_set_other (by decide), getD_set_other (by decide)]; exact h.i45
theorem Inv17.s4 (h0 : Inv17 A0 n c0 p1 w1 os bs L w u5 u6 u16 u17 u18 u19) (hf : L.getD 4 false = false) : Inv17 A0 n c0 p1 w1 os bs (L.setIfInBounds 4 true) (w.alloc (.cells #[.slice none 0 0] 27)) (.pointer (some ⟨w.heap.size, 0, none⟩)) u6 u16 u17 u18 u19 := by
  have h := h0.on (below_alloc (Below.refl _ w) (.cells #[.slice none 0 0] 27))
  exact {
    sz := by simpa using h.sz
    d6 := by
      rw [getD_set_other (i := 4) (j := 6) (by decide)]
      intro e; exact absurd (hf.symm.trans (h.d6 e).2) (by decide)
    d7 := by simp only [getD_set_other (i := 4) (j := 7) (by decide), getD_set_other (i := 4) (j := 3) (by decide), getD_set_other (i := 4) (j := 5) (by decide)]; exact h.d7
    bel := h.bel
    i0 := by rw [getD_set_other (by decide)]; exact h.i0
    i1 := by rw [getD_set_other (by decide)]; exact h.i1
    i2 := by rw [getD_set_other (by decide)]; exact h.i2
    i3 := by rw [getD_set_other (by decide)]; exact h.i3
    i4 := by
      rw [getD_set_other (i := 4) (j := 6) (by decide)]
      intro _
      exact ⟨w.heap.size, _, rfl, h0.bel.size, (MapKept.heap_alloc w _).1, fun e6 => absurd (hf.symm.trans (h.d6 e6).2) (by decide)⟩
    i5 := by rw [getD_set_other (by decide), getD_set_other (by decide)]; exact h.i5
    i45 := by
      rw [getD_set_other (i := 4) (j := 5) (by decide)]
      intro _ e5 he
      obtain ⟨p, v, h1, h2, h3, h4⟩ := h0.i5 e5
      rw [h1] at he
      injection he with he
      injection he with he
      injection he with he
      have := (Array.getElem?_eq_some_iff.1 h3).1
      omega }
theorem Inv17.s5 (h0 : Inv17 A0 n c0 p1 w1 os bs L w u5 u6 u16 u17 u18 u19) (hf : L.getD 5 false = false) : Inv17 A0 n c0 p1 w1 os bs (L.setIfInBounds 5 true) (w.alloc (.cells #[.slice none 0 0] 27)) u5 (.pointer (some ⟨w.heap.size, 0, none⟩)) u16 u17 u18 u19 := by
  have h := h0.on (below_alloc (Below.refl _ w) (.cells #[.slice none 0 0] 27))
  exact {
    sz := by simpa using h.sz
    d6 := by simp only [getD_set_other (i := 5) (j := 6) (by decide), getD_set_other (i := 5) (j := 1) (by decide), getD_set_other (i := 5) (j := 4) (by decide)]; exact h.d6
    d7 := by
      rw [getD_set_other (i := 5) (j := 7) (by decide)]
      intro e; exact absurd (hf.symm.trans (h.d7 e).2) (by decide)
    bel := h.bel
    i0 := by rw [getD_set_other (by decide)]; exact h.i0
    i1 := by rw [getD_set_other (by decide)]; exact h.i1
    i2 := by rw [getD_set_other (by decide)]; exact h.i2
    i3 := by rw [getD_set_other (by decide)]; exact h.i3
    i4 := by rw [getD_set_other (by decide), getD_set_other (by decide)]; exact h.i4
    i5 := by
      rw [getD_set_other (i := 5) (j := 7) (by decide)]
      intro _
      exact ⟨w.heap.size, _, rfl, h0.bel.size, (MapKept.heap_alloc w _).1, fun e6 => absurd (hf.symm.trans (h.d7 e6).2) (by decide)⟩
    i45 := by
      rw [getD_set_other (i := 5) (j := 4) (by decide)]
      intro e4 _ he
      obtain ⟨p, v, h1, h2, h3, h4⟩ := h0.i4 e4
      rw [h1] at he
      injection he with he
      injection he with he
      injection he with he
      have := (Array.getElem?_eq_some_iff.1 h3).1
      omega }
theorem box_set {w : World} {p : Nat} {v u : Value} (h : w.heap[p]? = some (.cells #[v] 27 (0, 0))) : (w.setCell ⟨p, 0, none⟩ u).heap[p]? = some (.cells #[u] 27 (0, 0)) := by
  have := blk_set h 0 u
  simpa using this
theorem box_far {w : World} {p q : Nat} {v u : Value} (h : w.heap[p]? = some (.cells #[v] 27 (0, 0))) (hne : p ≠ q) : (w.setCell ⟨q, 0, none⟩ u).heap[p]? = some (.cells #[v] 27 (0, 0)) := blk_far h hne u
theorem Inv17.s6 (h : Inv17 A0 n c0 p1 w1 os bs L w u5 u6 u16 u17 u18 u19) (p : Nat) (h5 : u5 = .pointer (some ⟨p, 0, none⟩)) (d1 : L.getD 1 false = true) (d4 : L.getD 4 false = true) : Inv17 A0 n c0 p1 w1 os bs (L.setIfInBounds 6 true) (w.setCell ⟨p, 0, none⟩ u17) u5 u6 u16 u17 u18 u19 := by
  obtain ⟨p', v, h1, h2, h3, h4⟩ := h.i4 d4
  obtain rfl : p' = p := by rw [h5] at h1; injection h1 with h1; injection h1 with h1; injection h1 with h1; exact h1.symm
  exact {
    sz := by simpa using h.sz
    d6 := fun _ => by simp only [getD_set_other (i := 6) (j := 1) (by decide), getD_set_other (i := 6) (j := 4) (by decide)]; exact ⟨d1, d4⟩
    d7 := by simp only [getD_set_other (i := 6) (j := 7) (by decide), getD_set_other (i := 6) (j := 3) (by decide), getD_set_other (i := 6) (j := 5) (by decide)]; exact h.d7
    bel := h.bel.setCell (p := ⟨p', 0, none⟩) h2 _
    i0 := by rw [getD_set_other (by decide)]; exact h.i0
    i1 := by
      rw [getD_set_other (by decide)]; intro e
      obtain ⟨A, c, q1, q2⟩ := h.i1 e
      exact ⟨A, c, q1, Kd.R_set q2 h3 (by intro q hq; simp [Kd.int, Kd.scalar] at hq; subst hq; decide) 0 _⟩
    i2 := by rw [getD_set_other (by decide)]; exact h.i2
    i3 := by
      rw [getD_set_other (by decide)]; intro e
      obtain ⟨A, c, q1, q2⟩ := h.i3 e
      exact ⟨A, c, q1, Kd.R_set q2 h3 (by intro q hq; simp [Kd.int, Kd.scalar] at hq; subst hq; decide) 0 _⟩
    i4 := fun _ => ⟨p', _, h1, h2, box_set h3, fun _ => rfl⟩
    i5 := by
      rw [getD_set_other (by decide), getD_set_other (by decide)]; intro e
      obtain ⟨q, v6, q1, q2, q3, q4⟩ := h.i5 e
      refine ⟨q, v6, q1, q2, box_far q3 ?_, q4⟩
      rintro rfl
      exact h.i45 d4 e (h5.trans q1.symm)
    i45 := by rw [getD_set_other (by decide), getD_set_other (by decide)]; exact h.i45 }
theorem Inv17.s7 (h : Inv17 A0 n c0 p1 w1 os bs L w u5 u6 u16 u17 u18 u19) (p : Nat) (h5 : u6 = .pointer (some ⟨p, 0, none⟩)) (d1 : L.getD 3 false = true) (d4 : L.getD 5 false = true) : Inv17 A0 n c0 p1 w1 os bs (L.setIfInBounds 7 true) (w.setCell ⟨p, 0, none⟩ u19) u5 u6 u16 u17 u18 u19 := by
  obtain ⟨p', v, h1, h2, h3, h4⟩ := h.i5 d4
  obtain rfl : p' = p := by rw [h5] at h1; injection h1 with h1; injection h1 with h1; injection h1 with h1; exact h1.symm
  exact {
    sz := by simpa using h.sz
    d6 := by simp only [getD_set_other (i := 7) (j := 6) (by decide), getD_set_other (i := 7) (j := 1) (by decide), getD_set_other (i := 7) (j := 4) (by decide)]; exact h.d6
    d7 := fun _ => by simp only [getD_set_other (i := 7) (j := 3) (by decide), getD_set_other (i := 7) (j := 5) (by decide)]; exact ⟨d1, d4⟩
    bel := h.bel.setCell (p := ⟨p', 0, none⟩) h2 _
    i0 := by rw [getD_set_other (by decide)]; exact h.i0
    i1 := by
      rw [getD_set_other (by decide)]; intro e
      obtain ⟨A, c, q1, q2⟩ := h.i1 e
      exact ⟨A, c, q1, Kd.R_set q2 h3 (by intro q hq; simp [Kd.int, Kd.scalar] at hq; subst hq; decide) 0 _⟩
    i2 := by rw [getD_set_other (by decide)]; exact h.i2
    i3 := by
      rw [getD_set_other (by decide)]; intro e
      obtain ⟨A, c, q1, q2⟩ := h.i3 e
      exact ⟨A, c, q1, Kd.R_set q2 h3 (by intro q hq; simp [Kd.int, Kd.scalar] at hq; subst hq; decide) 0 _⟩
    i4 := by
      rw [getD_set_other (by decide), getD_set_other (by decide)]; intro e
      obtain ⟨q, v6, q1, q2, q3, q4⟩ := h.i4 e
      refine ⟨q, v6, q1, q2, box_far q3 ?_, q4⟩
      rintro rfl
      exact h.i45 e d4 (q1.trans h5.symm)
    i5 := fun _ => ⟨p', _, h1, h2, box_set h3, fun _ => rfl⟩
    i45 := by rw [getD_set_other (by decide), getD_set_other (by decide)]; exact h.i45 }
end

theorem add_block (a : Addr) (k : Nat) : (a.add k).block = a.block := by unfold Addr.add; split <;> simp_all
theorem cap_max {w : World} {base : Nat} {ok : Nat → Prop} {A : Option Addr} {n c : Nat} {xs : List Int} (h : Kd.R (Kd.int .i64) 3 w base ok (.slice A n c) xs) : c ≤ 9223372036854775807 := by
  obtain ⟨inner, hown⟩ := Kd.R_own h
  rcases hown.2 with ⟨h0, _⟩ | ⟨g', cap', cur, hv, hg, hb, h1, h2, h3, h4⟩
  · injection h0 with _ _ h0; omega
  · injection hv with _ _ hv; subst hv; exact h2
theorem R_any {w : World} {base : Nat} {ok : Nat → Prop} {v : Value} {xs : List Int} (h : Kd.R (Kd.int .i64) 3 w base ok v xs) : Kd.R (Kd.int .i64) 3 w base (fun _ => True) v xs := Kd.R_mono h (fun _ _ => trivial)
theorem R_ok {w : World} {base : Nat} {ok : Nat → Prop} {v : Value} {xs : List Int} (h : Kd.R (Kd.int .i64) 3 w base (fun _ => True) v xs) (hk : ∀ k, v.ownBlock = some k → ok k) : Kd.R (Kd.int .i64) 3 w base ok v xs := ⟨hk, h.2⟩
theorem make_cap (n : Nat) (hn : n ≤ 128) (W : World) : (Instr.makeSlice 27 (.int .i64 0) (.int .i64 (n : Int))).run Try.prog W = .ok (.slice (some ⟨W.heap.size, 0, none⟩) 0 n) (W.alloc (.cells (madeCells #[.int .i64 0] n) 3)) := by
  have hi0 : (Try.prog.info? 3).map (fun i => (i.zero, i.size, i.bytes)) = some (some (.int .i64 0), 1, 8) := info3
  obtain ⟨i, hi, hzz⟩ := Option.map_eq_some_iff.1 hi0
  simp only [Prod.mk.injEq] at hzz
  have h := run_makeSlice (w := W) 27 3 i (.int .i64 0) Try.underlying27 hi hzz.1 .i64 .i64 0 (n : Int) (by omega) (by omega) (by rw [hzz.2.1]; simp; omega) (by rw [hzz.2.2]; omega) (by omega)
  rw [hzz.2.1] at h
  simpa [Value.cells] using h
theorem row_cap (W : World) (n : Nat) (hn : n ≤ 128) : Kd.R (Kd.int .i64) 3 (W.alloc (.cells (madeCells #[.int .i64 0] n) 3)) W.heap.size (fun _ => True) (.slice (some ⟨W.heap.size, 0, none⟩) 0 n) (idxs 0) :=
  row_made (xs := []) (Nat.le_refl _) (MapKept.heap_alloc W _).1 (by simp) (by unfold maxLen; omega) (by simp [size_madeCells]) (by simp)

set_option maxHeartbeats 8000000 in
set_option maxRecDepth 100000 in
theorem order_any (A0 : Option Addr) (c0 : Nat) (l0 : List It) (w : World) (hr0 : Kd.C k38 w A0 l0.length l0) (hw : ∀ x ∈ l0, wfIt x) (hc : chkV l0 = 0) (hOK : bandsOK l0) (r : List Int) (hr : orderV l0 = some r) :
    Calls Try.prog 17 #[.slice A0 l0.length c0] w fun e w' => ∃ v : Value, e = .returned (.tuple #[v, .int .i64 0]) ∧ Kd.R (Kd.int .i64) 3 w' w.heap.size (fun _ => True) v r ∧ Below w.heap.size w w' := by
  have HC := Lib.hid hr0
  have HW := Lib.hid hw
  have HCK := Lib.hid hc
  have HOK := Lib.hid hOK
  have HR := Lib.hid hr
  clear hr0 hw hOK hr hc
  go_enter Try.func17, Try.ntmps17
  go_wp2_with (go_at_call 9; refine (check_zero A0 c0 l0 _ (Kd.C_alloc HC.out _) HW.out HCK.out).mono ?_)
  rintro e w1 ⟨rfl, b1⟩
  have hbox : w1.cell? ⟨w.heap.size, 0, none⟩ = some (.slice A0 l0.length c0) := by
    have := (Below.cell b1 (p := ⟨w.heap.size, 0, none⟩) (by simp))
    rw [this]; simp
  have hC1 : Kd.C k38 w1 A0 l0.length l0 := Kd.C_below (Kd.C_alloc HC.out _) b1
  have hB1 : Below w.heap.size w w1 := ((Below.refl w.heap.size w).alloc (Nat.le_refl _) _).trans (b1.mono (by simp))
  have hp1 : w.heap.size < w1.heap.size := by have := b1.size; simp at this; omega
  clear b1
  generalize w.heap.size = p1 at hbox hp1 ⊢
  have HC1 := Lib.hid hC1
  have HB1 := Lib.hid hB1
  clear hC1 hB1 HC
  go_wp2_with fail
  go_cut [5, 6] from 16 to 19 (fun s5 s6 wx => ∃ p5 p6 A5 c5 A6 c6, s5 = .pointer (some ⟨p5, 0, none⟩) ∧ s6 = .pointer (some ⟨p6, 0, none⟩) ∧ Hid (Below w1.heap.size w1 wx) ∧ Hid (wx.cell? ⟨p5, 0, none⟩ = some (.slice A5 l0.length c5)) ∧ Hid (wx.cell? ⟨p6, 0, none⟩ = some (.slice A6 l0.length c6)) ∧ Hid (Kd.R (Kd.int .i64) 3 wx w1.heap.size (fun _ => True) (.slice A5 l0.length c5) (ownersL l0)) ∧ Hid (Kd.R (Kd.int .i64) 3 wx w1.heap.size (fun _ => True) (.slice A6 l0.length c6) (bandsV l0)))
  case first =>
    refine wp_region_inv (fun L a w => ∃ u5 u6 u16 u17 u18 u19, a = T17 A0 l0.length c0 p1 u5 u6 u16 u17 u18 u19 ∧ Inv17 A0 l0.length c0 p1 w1 (ownersL l0) (bandsV l0) L w u5 u6 u16 u17 u18 u19) (by kernel_rfl) (by kernel_rfl) ?hsz ?h0 ?hdone ?hstep
    case hsz => rintro L a w ⟨_, _, _, _, _, _, _, h⟩; exact h.sz
    case h0 =>
      refine ⟨_, _, _, _, _, _, rfl, ⟨by kernel_rfl, ?_, ?_, below_drew (Below.refl _ _), ?_, ?_, ?_, ?_, ?_, ?_, ?_⟩⟩ <;> (intro h; exact absurd h (by decide +kernel))
    case hdone =>
      rintro L a w ⟨u5, u6, u16, u17, u18, u19, rfl, h⟩ hall
      obtain ⟨A5, c5, rfl, r5⟩ := h.i1 (hall 1 (by decide))
      obtain ⟨A6, c6, rfl, r6⟩ := h.i3 (hall 3 (by decide))
      obtain ⟨p5, v5, rfl, hp5, hv5, hh5⟩ := h.i4 (hall 4 (by decide))
      obtain ⟨p6, v6, rfl, hp6, hv6, hh6⟩ := h.i5 (hall 5 (by decide))
      obtain rfl := hh5 (hall 6 (by decide))
      obtain rfl := hh6 (hall 7 (by decide))
      dsimp only [T17]
      go_wp2_with fail
      go_meet
      case rel => exact ⟨p5, p6, A5, c5, A6, c6, rfl, rfl, h.bel, by rw [cell_of hv5]; rfl, by rw [cell_of hv6]; rfl, r5, r6⟩
    case hstep =>
      rintro L a w ⟨u5, u6, u16, u17, u18, u19, rfl, h⟩ i hi hLi hdep
      have hS := h.bel
      have hsz := h.sz
      have hcell := (hS.cell (p := ⟨p1, 0, none⟩) hp1).trans hbox
      have hLf : L.getD i false = false := getD_false hLi (by rw [hsz]; exact hi)
      have hi8 : i < 8 := hi
      obtain rfl | rfl | rfl | rfl | rfl | rfl | rfl | rfl : i = 0 ∨ i = 1 ∨ i = 2 ∨ i = 3 ∨ i = 4 ∨ i = 5 ∨ i = 6 ∨ i = 7 := by omega
      · refine wpOp_at _ rfl (by rfl) (fun K hK => ?_)
        dsimp only [T17]
        go_simp
        exact hK _ _ ⟨u5, u6, _, u17, u18, u19, rfl, h.s0⟩
      · obtain rfl := h.i0 (dep_at hdep rfl 0 rfl (by kernel_rfl))
        refine wpOp_at _ rfl (by rfl) (fun K hK => ?_)
        dsimp only [T17]
        go_simp
        go_at_call 12
        refine (owners_z A0 c0 l0 _ (Kd.C_below HC1.out hS) HW.out (ownersL l0) (if_pos HCK.out) l0.length (stepsL_len l0 l0.length)).mono ?_
        rintro e w2 ⟨A5, c5, rfl, o2, b2⟩
        exact hK _ _ ⟨u5, u6, _, _, u18, u19, rfl, (h.on b2).s1 hLf A5 c5 (Kd.R_lower o2 hS.size)⟩
      · refine wpOp_at _ rfl (by rfl) (fun K hK => ?_)
        dsimp only [T17]
        go_simp
        exact hK _ _ ⟨u5, u6, u16, u17, _, u19, rfl, h.s2⟩
      · obtain rfl := h.i2 (dep_at hdep rfl 0 rfl (by kernel_rfl))
        refine wpOp_at _ rfl (by rfl) (fun K hK => ?_)
        dsimp only [T17]
        go_simp
        go_at_call 14
        refine (bands_z A0 c0 l0 _ (Kd.C_below HC1.out hS) HW.out HCK.out HOK.out).mono ?_
        rintro e w2 ⟨A6, c6, rfl, o2, b2⟩
        exact hK _ _ ⟨u5, u6, u16, u17, _, _, rfl, (h.on b2).s3 hLf A6 c6 (Kd.R_lower o2 hS.size)⟩
      · refine wpOp_at _ rfl (by rfl) (fun K hK => ?_)
        dsimp only [T17]
        go_simp
        exact hK _ _ ⟨_, u6, u16, u17, u18, u19, rfl, h.s4 hLf⟩
      · refine wpOp_at _ rfl (by rfl) (fun K hK => ?_)
        dsimp only [T17]
        go_simp
        exact hK _ _ ⟨u5, _, u16, u17, u18, u19, rfl, h.s5 hLf⟩
      · have d4 : L.getD 4 false = true := dep_at hdep rfl 0 rfl (by kernel_rfl)
        have d1 : L.getD 1 false = true := dep_at hdep rfl 1 rfl (by kernel_rfl)
        obtain ⟨p, v, h5, h2, h3, h4⟩ := h.i4 d4
        obtain ⟨A5, c5, h17, _⟩ := h.i1 d1
        subst h5
        subst h17
        have hc5 : w.cell? ⟨p, 0, none⟩ = some v := by rw [cell_of h3]; rfl
        have hf5 := blk_frozen h3 0
        refine wpOp_at _ rfl (by rfl) (fun K hK => ?_)
        dsimp only [T17]
        go_simp
        exact hK _ _ ⟨_, u6, u16, _, u18, u19, rfl, h.s6 p rfl d1 d4⟩
      · have d4 : L.getD 5 false = true := dep_at hdep rfl 0 rfl (by kernel_rfl)
        have d1 : L.getD 3 false = true := dep_at hdep rfl 1 rfl (by kernel_rfl)
        obtain ⟨p, v, h5, h2, h3, h4⟩ := h.i5 d4
        obtain ⟨A6, c6, h19, _⟩ := h.i3 d1
        subst h5
        subst h19
        have hc5 : w.cell? ⟨p, 0, none⟩ = some v := by rw [cell_of h3]; rfl
        have hf5 := blk_frozen h3 0
        refine wpOp_at _ rfl (by rfl) (fun K hK => ?_)
        dsimp only [T17]
        go_simp
        exact hK _ _ ⟨u5, _, u16, u17, u18, _, rfl, h.s7 p rfl d1 d4⟩
  case rest =>
    obtain ⟨p5, p6, A5, c5, A6, c6, rfl, rfl, HB, H5, H6, HR5, HR6⟩ := hcut
    have hlen : l0.length ≤ 128 := by
      have hc := HCK.out
      unfold chkV at hc
      rcases Nat.lt_or_ge 128 l0.length with h | h
      · rw [if_pos h] at hc; exact absurd hc (by decide)
      · exact h
    have hbl := (HB.out.cell (p := ⟨p1, 0, none⟩) hp1).trans hbox
    have h5 := H5.out
    have h6 := H6.out
    have HC2 : Hid (Caught wc p1 p6 A0 A6 c0 c6 l0 (bandsV l0)) := Lib.hid ⟨hbl, h6, Kd.C_below HC1.out HB.out, (Kd.R_reads' HR6.out).2.2, bandsV_len l0⟩
    have HO2 : Hid (Kd.C (Kd.int .i64) wc A5 (ownersL l0).length (ownersL l0)) := Lib.hid (Kd.R_reads' HR5.out).2.2
    have HBW := Lib.hid (HB1.out.trans (HB.out.mono HB1.out.size))
    have hbw : w.heap.size ≤ wc.heap.size := HBW.out.size
    have hms := make_cap l0.length hlen
    have hp1c : p1 < wc.heap.size := World.block_lt_of_cell? _ _ hbl
    have hrc := row_cap wc l0.length hlen
    have hrb := below_alloc (Below.refl _ wc) (.cells (madeCells #[.int .i64 0] l0.length) 3)
    have HRC := Lib.hid hrc
    have HRB := Lib.hid hrb
    have hnd : (l0.map (·.f0)).Nodup := ((G.chkV_zero l0).mp HCK.out).nd
    have HND := Lib.hid hnd
    clear hrc hrb hnd
    clear H5 H6 HR5 HR6 HB hbox hp1 HC1 HB1
    go_wp2_with fail
    go_loopw [7, 25] (fun v i wr => ∃ k : Nat, i = .int .i64 k ∧ k ≤ l0.length ∧ Hid (Kd.R (Kd.int .i64) 3 wr wc.heap.size (fun _ => True) v (idxs k)) ∧ Hid (Below wc.heap.size wc wr)) (fun _ i _ => l0.length + 1 - (intOf i).toNat)
    case atStart => exact ⟨0, rfl, by omega, HRC, HRB⟩
    case round =>
      clear HRC HRB hms
      obtain ⟨k, rfl, hk, HO, HB⟩ := hrel
      obtain ⟨A7, c7, rfl⟩ := Kd.R_slice HO.out
      by_cases hlt : k < l0.length
      · have hil := idxs_len k
        have HIL := Lib.hid hil
        clear hil
        go_wp2_with (at_builtin; refine Kd.R_append (Kd.int .i64) (w0 := wc) wc.heap.size rfl (.tmp 28) (.tmp 30) 27 3 (.int .i64 0) 8 rfl Try.underlying27 info3 rfl (by decide) (by omega) _ (idxs k) (k : Int) [.int .i64 k] (fun _ => True) (fun _ => False) rfl rfl ?aP (fun _ hk => hk.elim) ?aF ?aO ?aB ?aS ?aL ?_; (case aP => exact rfl); (case aF => exact (fun _ _ => trivial)); (case aO => exact HO.out); (case aB => exact HB.out); (case aS => exact HB.out.size); (case aL => (rw [HIL.out]; omega)); intro v31 w38 ho hb hg hat)
        go_roundw
        case rel => exact ⟨k + 1, by go_num, by omega, Lib.hid (by rw [idxs_succ]; exact ho), Lib.hid hb⟩
        case measure => simp [intOf]; omega
      · obtain rfl : l0.length = k := by omega
        have ho7 := HO.out
        rw [idxs_len] at ho7
        rw [idxs_len]
        have HO7 := Lib.hid ho7
        clear ho7 HO hlt hk
        go_wp2_with (go_at_call 26; refine (sort_all wc p1 p6 A0 A6 c0 c6 l0 (bandsV l0) HC2.out HND.out hlen A7 c7 _ HB.out HO7.out).mono ?_)
        rintro e w4 ⟨rfl, o4, b4⟩
        have hc7 : c7 ≤ 9223372036854775807 := cap_max o4
        have hslen : (sortV l0 (bandsV l0)).length = l0.length := by unfold sortV; rw [List.length_mergeSort, idxs_len]
        have hsmem : ∀ x ∈ sortV l0 (bandsV l0), 0 ≤ x ∧ x < l0.length := fun x hx => by unfold sortV at hx; rw [List.mem_mergeSort, idxs_mem] at hx; exact hx
        have hot : Kd.R (Kd.int .i64) 3 (w4.alloc (.cells #[.slice none 0 0] 27)) wc.heap.size (fun k => k < w4.heap.size) (.slice A7 l0.length c7) (sortV l0 (bandsV l0)) := Kd.R_alloc (Kd.R_mono (Kd.R_bound o4) (fun k hk => hk.2.2.1)) _
        have hbo : Below wc.heap.size wc (w4.alloc (.cells #[.slice none 0 0] 27)) := b4.alloc b4.size _
        have hgo : orderGo l0 (ownersL l0) l0.length (sortV l0 (bandsV l0)) [] = some r := HR.out
        have hbx : (w4.alloc (.cells #[.slice none 0 0] 27)).heap[w4.heap.size]? = some (.cells #[.slice none 0 0] 27 (0, 0)) := (MapKept.heap_alloc w4 _).1
        have h4c : wc.heap.size ≤ w4.heap.size := b4.size
        have h5c : p5 < wc.heap.size := World.block_lt_of_cell? _ _ h5
        have HT := Lib.hid hot
        have HBO := Lib.hid hbo
        have HGO := Lib.hid hgo
        have HBX := Lib.hid hbx
        have HSL := Lib.hid hslen
        have HSM := Lib.hid hsmem
        have H5 := Lib.hid h5
        clear hot hbo hgo hbx hslen hsmem o4 b4 HO7 HB HR HND h5 h6
        go_wp2_with fail
        go_loopg [7] l0.length (fun f v wr => ∃ (todo out : List Int) (A7 : Option Addr) (vo : Value), v = .slice A7 f c7 ∧ Hid (todo.length = f) ∧ Hid (∀ x ∈ todo, 0 ≤ x ∧ x < l0.length) ∧ Hid (orderGo l0 (ownersL l0) f todo out = some r) ∧ Hid (Kd.R (Kd.int .i64) 3 wr wc.heap.size (fun k => k < w4.heap.size) (.slice A7 f c7) todo) ∧ Hid (Kd.R (Kd.int .i64) 3 wr w4.heap.size (fun _ => True) vo out) ∧ out.length + f = l0.length ∧ Hid (wr.heap[w4.heap.size]? = some (.cells #[vo] 27 (0, 0))) ∧ Hid (Below wc.heap.size wc wr))
        case atStart => exact ⟨_, [], A7, .slice none 0 0, rfl, HSL, HSM, HGO, HT, Lib.hid (Kd.R_nil _ _ _ _ _), by simp, HBX, HBO⟩
        case round =>
          clear HSL HSM HGO HT HBX HBO
          obtain ⟨todo, out, A7, vo, rfl, HTL, HTM, HGO, HT, HOUT, hol, HBX, HBO⟩ := hrel
          have h5w : wr.cell? ⟨p5, 0, none⟩ = some (.slice A5 l0.length c5) := (HBO.out.cell (p := ⟨p5, 0, none⟩) h5c).trans H5.out
          have h9w : wr.cell? ⟨w4.heap.size, 0, none⟩ = some vo := by rw [cell_of HBX.out]; rfl
          have h9f : wr.frozen? ⟨w4.heap.size, 0, none⟩ = false := blk_frozen HBX.out 0
          obtain ⟨A9, c9, rfl⟩ := Kd.R_slice HOUT.out
          cases gk with
          | zero =>
            have hgo := HGO.out
            rw [orderGo, if_pos (List.eq_nil_of_length_eq_zero HTL.out)] at hgo
            obtain rfl := Option.some.inj hgo
            have HF := Lib.hid (Kd.R_lower HOUT.out (Nat.le_trans hbw h4c))
            have HFB := Lib.hid (HBW.out.trans (HBO.out.mono hbw))
            clear HGO hgo HT HOUT HBO
            go_wp2_with fail
            go_ret2
            exact ⟨_, rfl, HF.out, HFB.out⟩
          | succ f =>
            have hgo := HGO.out
            have hne : todo ≠ [] := fun e => by have := HTL.out; rw [e] at this; simp at this
            rw [orderGo, if_neg hne] at hgo
            have hif := indexFunc_any p5 w4.heap.size A5 A9 c5 c9 (ownersL l0) out l0.length out.length (stepsL_len l0 l0.length) rfl (by omega) wr h5w h9w (Kd.C_below HO2.out HBO.out) (Kd.R_reads' HOUT.out).2.2 A7 c7 todo (f + 1) HTL.out (by omega) (Kd.R_reads' HT.out).2.2 HTM.out
            have hfp := (firstP_none (freeB (ownersL l0) out) todo 0 (by omega)).2
            clear HGO hne
            generalize firstP (freeB (ownersL l0) out) todo 0 = ni at hgo hif hfp
            by_cases hni : ni < 0
            · rw [if_pos hni] at hgo; cases hgo
            rw [if_neg hni] at hgo
            obtain ⟨m, rfl⟩ : ∃ m : Nat, ni = m := ⟨ni.toNat, by omega⟩
            have hfp2 := hfp (by omega)
            rw [HTL.out] at hfp2
            have hmf : m < f + 1 := by omega
            rw [Int.toNat_natCast] at hgo
            have hmt : m < todo.length := by rw [HTL.out]; exact hmf
            obtain ⟨ad7, hA7, hct⟩ := elem_at (Kd.R_reads' HT.out).2.2 m hmt
            subst hA7
            have hrt : rd todo (m : Int) = todo[m] := by unfold rd; rw [Int.toNat_natCast, List.getD_eq_getElem?_getD, List.getElem?_eq_getElem hmt]; rfl
            rw [hrt] at hgo
            have hin := HTM.out todo[m] (List.getElem_mem hmt)
            have HIN := Lib.hid (fun x (hx : x ∈ todo.eraseIdx m) => HTM.out x (List.mem_of_mem_eraseIdx hx))
            clear hrt hfp hfp2 hni
            generalize todo[m] = tj at hgo hct hin
            obtain ⟨hin0, hin1⟩ := hin
            have hblw : wr.cell? ⟨p1, 0, none⟩ = some (.slice A0 l0.length c0) := (HBO.out.cell (p := ⟨p1, 0, none⟩) hp1c).trans hbl
            obtain ⟨ad0, hA0, g0, _⟩ := at_T38 HC2.out.l0 tj hin0 hin1
            subst hA0
            have hb0c : (ad0.add (tj.toNat * 6)).block < wc.heap.size := World.block_lt_of_cell? _ _ g0
            have g0' : wr.cell? (ad0.add (tj.toNat * 6)) = some (.int .i64 (rdI l0 tj).f0) := (HBO.out.cell hb0c).trans g0
            have HGO := Lib.hid hgo
            clear g0 hgo
            go_wp2_with (go_at_call 30; refine hif.mono ?_)
            rintro e w5 ⟨rfl, q, rfl⟩
            have HTq := Lib.hid (Kd.R_drewN HT.out q)
            have HOq := Lib.hid (Kd.R_drewN HOUT.out q)
            have HBq := Lib.hid (pw_below_drewN HBO.out q)
            have hbxq : (wr.drewN q).heap[w4.heap.size]? = some (.cells #[.slice A9 out.length c9] 27 (0, 0)) := HBX.out
            have HXq := Lib.hid hbxq
            have h4w : w4.heap.size ≤ wr.heap.size := by have := (Array.getElem?_eq_some_iff.1 HBX.out).1; omega
            have hp9 : w4.heap.size < wr.heap.size := (Array.getElem?_eq_some_iff.1 HBX.out).1
            have hp1w : p1 < wr.heap.size := World.block_lt_of_cell? _ _ hblw
            have hb7 : (ad7.add m).block < wr.heap.size := World.block_lt_of_cell? _ _ hct
            have hb0 : (ad0.add (tj.toNat * 6)).block < wr.heap.size := World.block_lt_of_cell? _ _ g0'
            have HOUT2 := HOUT
            have HX2 := HBX
            have HT2 := HT
            have HB2 := HBO
            have hp14 : p1 < w4.heap.size := Nat.lt_of_lt_of_le hp1c h4c
            have hb74 : (ad7.add m).block < w4.heap.size := by rw [add_block]; exact HT.out.1 _ rfl
            have hb04 : (ad0.add (tj.toNat * 6)).block < w4.heap.size := Nat.lt_of_lt_of_le hb0c h4c
            have n1 : w4.heap.size ≠ p1 := by omega
            have n7 : w4.heap.size ≠ (ad7.add m).block := by omega
            have n0 : w4.heap.size ≠ (ad0.add (tj.toNat * 6)).block := by omega
            have hm0 : (0 : Int) ≤ (m : Int) := by omega
            have hm1 : (m : Int) < (f : Int) + 1 := by omega
            clear hbxq HT HOUT HBO HBX hif h5w
            go_upto_region 15 with fail
            go_cut [] from 42 to 52 (fun wx => ∃ vo' : Value, Hid (wx.heap[w4.heap.size]? = some (.cells #[vo'] 27 (0, 0))) ∧ Hid (Kd.R (Kd.int .i64) 3 wx w4.heap.size (fun _ => True) vo' (out ++ [(rdI l0 tj).f0])) ∧ Hid (Kd.R (Kd.int .i64) 3 wx wc.heap.size (fun k => k < w4.heap.size) (.slice (some ad7) (f + 1) c7) todo) ∧ Hid (Below wc.heap.size wc wx))
            case first =>
              refine wp_region_held_drew (S := fun wv => wv.cell? ⟨p1, 0, none⟩ = some (.slice (some ad0) l0.length c0) ∧ wv.cell? (ad7.add m) = some (.int .i64 tj) ∧ wv.cell? (ad0.add (tj.toNat * 6)) = some (.int .i64 (rdI l0 tj).f0)) (by kernel_rfl) ⟨hblw, hct, g0'⟩ (fun hHeld => ?_)
              refine wpAnyH_take (i := 1) (v := ?_) rfl (by kernel_rfl) (by kernel_rfl) (by kernel_rfl) (fun _ _ _ h => h) (Or.inl ⟨by rfl, ?_⟩) hHeld ?_
              rotate_left 1
              · intro w_ hSw; (try dsimp only at hSw); go_simp; (try with_reducible rfl)
              simp only [Act.put, List.setIfInBounds_toArray, List.set_cons_zero, List.set_cons_succ]
              refine wpAnyH_take (i := 2) (v := ?_) rfl (by kernel_rfl) (by kernel_rfl) (by kernel_rfl) (fun _ _ _ h => h) (Or.inl ⟨by rfl, ?_⟩) hHeld ?_
              rotate_left 1
              · intro w_ hSw; (try dsimp only at hSw); go_simp; (try with_reducible rfl)
              simp only [Act.put, List.setIfInBounds_toArray, List.set_cons_zero, List.set_cons_succ]
              refine wpAnyH_take (i := 3) (v := ?_) rfl (by kernel_rfl) (by kernel_rfl) (by kernel_rfl) (fun _ _ _ h => h) (Or.inl ⟨by rfl, ?_⟩) hHeld ?_
              rotate_left 1
              · intro w_ hSw; (try dsimp only at hSw); go_simp; (try with_reducible rfl)
              simp only [Act.put, List.setIfInBounds_toArray, List.set_cons_zero, List.set_cons_succ]
              refine wpAnyH_take (i := 4) (v := ?_) rfl (by kernel_rfl) (by kernel_rfl) (by kernel_rfl) (fun _ _ _ h => h) (Or.inl ⟨by rfl, ?_⟩) hHeld ?_
              rotate_left 1
              · intro w_ hSw; (try dsimp only at hSw); go_simp; (try with_reducible rfl)
              simp only [Act.put, List.setIfInBounds_toArray, List.set_cons_zero, List.set_cons_succ]
              refine wpAnyH_take (i := 5) (v := ?_) rfl (by kernel_rfl) (by kernel_rfl) (by kernel_rfl) (fun _ _ _ h => h) (Or.inl ⟨by rfl, ?_⟩) hHeld ?_
              rotate_left 1
              · intro w_ hSw; (try dsimp only at hSw); go_simp; (try with_reducible rfl)
              simp only [Act.put, List.setIfInBounds_toArray, List.set_cons_zero, List.set_cons_succ]
              refine wpAnyH_take (i := 6) (v := ?_) rfl (by kernel_rfl) (by kernel_rfl) (by kernel_rfl) (fun _ _ _ h => h) (Or.inl ⟨by rfl, ?_⟩) hHeld ?_
              rotate_left 1
              · intro w_ hSw; (try dsimp only at hSw); go_simp; (try with_reducible rfl)
              simp only [Act.put, List.setIfInBounds_toArray, List.set_cons_zero, List.set_cons_succ]
              refine wpAnyH_take (i := 7) (v := ?_) rfl (by kernel_rfl) (by kernel_rfl) (by kernel_rfl) (fun _ _ _ h => h) (Or.inl ⟨by rfl, ?_⟩) hHeld ?_
              rotate_left 1
              · intro w_ hSw; (try dsimp only at hSw); go_simp; (try with_reducible rfl)
              simp only [Act.put, List.setIfInBounds_toArray, List.set_cons_zero, List.set_cons_succ]
              refine wpAnyH_take (i := 8) (v := ?_) rfl (by kernel_rfl) (by kernel_rfl) (by kernel_rfl) (fun _ _ _ h => h) (Or.inl ⟨by rfl, ?_⟩) hHeld ?_
              rotate_left 1
              · intro w_ hSw; (try dsimp only at hSw); go_simp; (try with_reducible rfl)
              simp only [Act.put, List.setIfInBounds_toArray, List.set_cons_zero, List.set_cons_succ]
              refine wpAnyH_ready (rs := [0, 9]) (by kernel_rfl) (by simp) ?_
              refine AllReadyH.cons (o := _) rfl (fun K hK => ?_) (AllReadyH.cons (o := _) rfl (fun K hK => ?_) AllReadyH.nil)
              · go_simp
                refine hK.out _ _ hHeld (fun _ => ?_)
                clear hK K
                try simp only [Act.put, List.setIfInBounds_toArray, List.set_cons_zero, List.set_cons_succ]
                refine wpAnyH_ready (rs := [9]) (by kernel_rfl) (by simp) ?_
                refine AllReadyH.cons (o := _) rfl (fun K hK => ?_) AllReadyH.nil
                go_simp
                refine hK.out _ _ (by go_keep) (fun hHeld => ?_)
                clear hK K
                try simp only [Act.put, List.setIfInBounds_toArray, List.set_cons_zero, List.set_cons_succ]
                refine wpAnyH_ready (rs := [10]) (by kernel_rfl) (by simp) ?_
                refine AllReadyH.cons (o := _) rfl (fun K hK => ?_) AllReadyH.nil
                refine Kd.R_append_step (Kd.int .i64) (w0 := wr.drewN (q + 1)) (W := wr.drewN (q + 1)) w4.heap.size (by rfl) (.tmp 42) (.tmp 51) 27 3 (.int .i64 0) 8 rfl Try.underlying27 info3 rfl (by decide) (by omega) (.slice A9 out.length c9) out (rdI l0 tj).f0 [.int .i64 (rdI l0 tj).f0] (fun _ => True) (fun _ => False) rfl rfl rfl (fun _ hk => hk.elim) (fun _ _ => trivial) (Kd.R_drewN HOUT2.out (q + 1)) (Below.refl _ _) h4w (by omega) ?_
                intro v52 w6 ho hb hg hat
                obtain ⟨A10, c10, rfl⟩ := Kd.R_slice ho
                rw [show (out ++ [(rdI l0 tj).f0]).length = out.length + 1 by simp] at ho
                have hx6 : w6.heap[w4.heap.size]? = some (.cells #[.slice A9 out.length c9] 27 (0, 0)) := (hg.block _ hp9 (Kd.R_ne HOUT2.out HX2.out (by decide))).trans HX2.out
                have hc6 : w6.cell? ⟨w4.heap.size, 0, none⟩ = some (.slice A9 out.length c9) := by rw [cell_of hx6]; rfl
                have hf6 := blk_frozen hx6 0
                have k1 : w6.cell? ⟨p1, 0, none⟩ = some (.slice (some ad0) l0.length c0) := (hb.cell (p := ⟨p1, 0, none⟩) hp14).trans hblw
                have k7 : w6.cell? (ad7.add m) = some (.int .i64 tj) := (hb.cell hb74).trans hct
                have k0 : w6.cell? (ad0.add (tj.toNat * 6)) = some (.int .i64 (rdI l0 tj).f0) := (hb.cell hb04).trans g0'
                refine hK.out _ _ ⟨k1, k7, k0⟩ (fun hHeld => ?_)
                clear hK K
                (try simp only [Act.put, List.setIfInBounds_toArray, List.set_cons_zero, List.set_cons_succ])
                refine wpAnyH_ready (rs := [11]) (by kernel_rfl) (by simp) ?_
                refine AllReadyH.cons (o := _) rfl (fun K hK => ?_) AllReadyH.nil
                go_simp
                refine hK.out _ _ (by go_keep) (fun _ => ?_)
                clear hK K
                (try simp only [Act.put, List.setIfInBounds_toArray, List.set_cons_zero, List.set_cons_succ])
                refine wpAnyH_done (by kernel_rfl) ?_ _
                go_wp2_with fail
                go_meet
                case rel =>
                  refine ⟨_, Lib.hid (box_set hx6), Lib.hid (Kd.R_set ho hx6 (by intro q hq; simp [Kd.int, Kd.scalar] at hq; subst hq; decide) 0 _), Lib.hid ?_, Lib.hid ?_⟩
                  · exact Kd.R_set (Kd.R_step (Kd.R_drewN HT2.out (q + 1)) (fun k hk _ => hb.block k hk)) hx6 (by intro q hq; simp [Kd.int, Kd.scalar] at hq; subst hq; decide) 0 _
                  · exact ((pw_below_drewN HB2.out (q + 1)).trans (hb.mono h4c)).setCell (p := ⟨w4.heap.size, 0, none⟩) h4c _
              · go_simp
                refine hK.out _ _ (by go_keep) (fun hHeld => ?_)
                clear hK K
                try simp only [Act.put, List.setIfInBounds_toArray, List.set_cons_zero, List.set_cons_succ]
                refine wpAnyH_ready (rs := [0]) (by kernel_rfl) (by simp) ?_
                refine AllReadyH.cons (o := _) rfl (fun K hK => ?_) AllReadyH.nil
                have hca : ((wr.drewN (q + 1)).alloc (.cells #[.int .i64 (rdI l0 tj).f0] 3)).cell? ⟨w4.heap.size, 0, none⟩ = some (.slice A9 out.length c9) := ((below_alloc (Below.refl _ (wr.drewN (q + 1))) _).cell (p := ⟨w4.heap.size, 0, none⟩) hp9).trans h9w
                go_simp
                refine hK.out _ _ hHeld (fun _ => ?_)
                clear hK K
                try simp only [Act.put, List.setIfInBounds_toArray, List.set_cons_zero, List.set_cons_succ]
                refine wpAnyH_ready (rs := [10]) (by kernel_rfl) (by simp) ?_
                refine AllReadyH.cons (o := _) rfl (fun K hK => ?_) AllReadyH.nil
                refine Kd.R_append_step (Kd.int .i64) (w0 := wr.drewN (q + 1)) (W := wr.drewN (q + 1)) w4.heap.size (by rfl) (.tmp 42) (.tmp 51) 27 3 (.int .i64 0) 8 rfl Try.underlying27 info3 rfl (by decide) (by omega) (.slice A9 out.length c9) out (rdI l0 tj).f0 [.int .i64 (rdI l0 tj).f0] (fun _ => True) (fun _ => False) rfl rfl rfl (fun _ hk => hk.elim) (fun _ _ => trivial) (Kd.R_drewN HOUT2.out (q + 1)) (Below.refl _ _) h4w (by omega) ?_
                intro v52 w6 ho hb hg hat
                obtain ⟨A10, c10, rfl⟩ := Kd.R_slice ho
                rw [show (out ++ [(rdI l0 tj).f0]).length = out.length + 1 by simp] at ho
                have hx6 : w6.heap[w4.heap.size]? = some (.cells #[.slice A9 out.length c9] 27 (0, 0)) := (hg.block _ hp9 (Kd.R_ne HOUT2.out HX2.out (by decide))).trans HX2.out
                have hc6 : w6.cell? ⟨w4.heap.size, 0, none⟩ = some (.slice A9 out.length c9) := by rw [cell_of hx6]; rfl
                have hf6 := blk_frozen hx6 0
                have k1 : w6.cell? ⟨p1, 0, none⟩ = some (.slice (some ad0) l0.length c0) := (hb.cell (p := ⟨p1, 0, none⟩) hp14).trans hblw
                have k7 : w6.cell? (ad7.add m) = some (.int .i64 tj) := (hb.cell hb74).trans hct
                have k0 : w6.cell? (ad0.add (tj.toNat * 6)) = some (.int .i64 (rdI l0 tj).f0) := (hb.cell hb04).trans g0'
                refine hK.out _ _ ⟨k1, k7, k0⟩ (fun hHeld => ?_)
                clear hK K
                (try simp only [Act.put, List.setIfInBounds_toArray, List.set_cons_zero, List.set_cons_succ])
                refine wpAnyH_ready (rs := [11]) (by kernel_rfl) (by simp) ?_
                refine AllReadyH.cons (o := _) rfl (fun K hK => ?_) AllReadyH.nil
                go_simp
                refine hK.out _ _ (by go_keep) (fun _ => ?_)
                clear hK K
                (try simp only [Act.put, List.setIfInBounds_toArray, List.set_cons_zero, List.set_cons_succ])
                refine wpAnyH_done (by kernel_rfl) ?_ _
                go_wp2_with fail
                go_meet
                case rel =>
                  refine ⟨_, Lib.hid (box_set hx6), Lib.hid (Kd.R_set ho hx6 (by intro q hq; simp [Kd.int, Kd.scalar] at hq; subst hq; decide) 0 _), Lib.hid ?_, Lib.hid ?_⟩
                  · exact Kd.R_set (Kd.R_step (Kd.R_drewN HT2.out (q + 1)) (fun k hk _ => hb.block k hk)) hx6 (by intro q hq; simp [Kd.int, Kd.scalar] at hq; subst hq; decide) 0 _
                  · exact ((pw_below_drewN HB2.out (q + 1)).trans (hb.mono h4c)).setCell (p := ⟨w4.heap.size, 0, none⟩) h4c _
            case rest =>
              obtain ⟨vo', HX3, HO3, HT3, HB3⟩ := hcut
              obtain ⟨g, cap, he, _, _, _⟩ := Kd.R_form HT3.out (by rw [HTL.out]; omega)
              injection he with he hq1 hq2
              clear hq1 hq2
              injection he with he
              subst he
              have hg4 : g < w4.heap.size := HT3.out.1 _ rfl
              have hdel := delete_todo HB3.out (R_any HT3.out) m hmf hc7
              rw [Nat.add_sub_cancel] at hdel
              have hl2 : (todo.eraseIdx m).length = f := by rw [List.length_eraseIdx_of_lt hmt, HTL.out]; rfl
              have HL2 := Lib.hid hl2
              clear hl2
              go_wp2_with (go_at_call 33; refine hdel.mono ?_)
              rintro e w7 ⟨rfl, r7, b7, g7⟩
              have hx7 : w7.heap[w4.heap.size]? = some (.cells #[vo'] 27 (0, 0)) := (g7.block _ (Array.getElem?_eq_some_iff.1 HX3.out).1 (by simp; omega)).trans HX3.out
              have ho7 : Kd.R (Kd.int .i64) 3 w7 w4.heap.size (fun _ => True) vo' (out ++ [(rdI l0 tj).f0]) := R_any (Kd.R_step (Kd.R_bound HO3.out) (fun k hk _ => g7.block k hk.2.2.1 (by have := hk.2.1; simp; omega)))
              have ht7 := R_ok (ok := fun k => k < w4.heap.size) r7 (by intro k hk; cases hk; exact hg4)
              have HX7 := Lib.hid hx7
              have HO7 := Lib.hid ho7
              have HT7 := Lib.hid ht7
              have HB7 := Lib.hid b7
              clear hx7 ho7 ht7 b7 r7 g7 hdel
              go_wp2_with fail
              go_roundg f
              case measure => omega
              case rel => exact ⟨todo.eraseIdx m, out ++ [(rdI l0 tj).f0], some ⟨g, 0, none⟩, vo', rfl, HL2, HIN, HGO, HT7, HO7, by simp; omega, HX7, HB7⟩

set_option maxHeartbeats 4000000 in
set_option maxRecDepth 100000 in
theorem order_none (A0 : Option Addr) (c0 : Nat) (l0 : List It) (w : World) (hr0 : Kd.C k38 w A0 l0.length l0) (hw : ∀ x ∈ l0, wfIt x) (hc : ¬ chkV l0 = 0) :
    Calls Try.prog 17 #[.slice A0 l0.length c0] w fun e w' => ∃ v : Value, e = .returned (.tuple #[v, .int .i64 (chkV l0)]) ∧ Kd.R (Kd.int .i64) 3 w' w.heap.size (fun _ => True) v [] ∧ Below w.heap.size w w' := by
  have HC := Lib.hid hr0
  have HW := Lib.hid hw
  have hne : (chkV l0 != 0) = true := by rw [bne_iff_ne]; exact hc
  clear hr0 hw hc
  go_enter Try.func17, Try.ntmps17
  go_wp2_with (go_at_call 9; refine (check_v A0 c0 l0 _ (Kd.C_alloc HC.out _) HW.out).mono ?_; rintro e w1 ⟨rfl, b1⟩)
  go_ret2
  exact ⟨_, rfl, Kd.R_nil _ _ _ _ _, ((Below.refl w.heap.size w).alloc (Nat.le_refl _) _).trans (b1.mono (by simp))⟩

theorem order_Order.calls (A0 : Option Addr) (c0 : Nat) (l0 : List It) (r1 : List Int) (r2 : Int) (w : World) (hr0 : Kd.C k38 w A0 l0.length l0) (hc0 : l0.length ≤ c0) (h : order_Order.f l0 = some (r1, r2)) :
    Calls Try.prog 17 #[.slice A0 l0.length c0] w fun e w' => ∃ v0_ : Value, e = .returned (.tuple #[v0_, .int .i64 r2]) ∧ Kd.R (Kd.int .i64) 3 w' w.heap.size (fun _ => True) v0_ r1 ∧ Below w.heap.size w w' := by
  unfold order_Order.f order_Check.f at h
  split at h
  · rename_i hw
    rw [Option.bind_some] at h
    have e : (if l0.length > 128 then 2 else chkL [] l0) = chkV l0 := rfl
    rw [e] at h
    by_cases hc : chkV l0 = 0
    · rw [if_pos hc] at h
      split at h
      · rename_i hok
        obtain ⟨r, hr, hr'⟩ := Option.bind_eq_some_iff.mp h
        have := Option.some.inj hr'
        injection this with h1 h2
        subst h1
        subst h2
        exact order_any A0 c0 l0 w hr0 hw hc hok r hr
      · exact absurd h (by simp)
    · rw [if_neg hc] at h
      have := Option.some.inj h
      injection this with h1 h2
      subst h1
      subst h2
      exact order_none A0 c0 l0 w hr0 hw hc
  · exact absurd h (by simp)
end Go.Proofs.Ytplchdlcolepmaa.P
