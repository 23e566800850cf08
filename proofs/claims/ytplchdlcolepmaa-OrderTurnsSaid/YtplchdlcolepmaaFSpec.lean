/-
  What makes a good list of things, who owns whom in it, and that the given program's way of finding owners finds just them. Plain Lean.
-/
import Derived.Test.YtplchdlcolepmaaExtIdx
import Derived.Test.YtplchdlcolepmaaRing
namespace Go.Proofs.Ytplchdlcolepmaa.G
open Go.Proofs.Ytplchdlcolepmaa.P Go.RowKit Go.Proofs.YtplchdlcolepmaaW.PrintWords Go.Proofs.YtplchdlcolepmaaW.PrintLast
set_option linter.unusedVariables false
set_option linter.unusedSimpArgs false

/-! ### good lists -/
def okIt (x : It) : Prop := 1 ≤ x.f0 ∧ 0 ≤ x.f1 ∧ x.f1 < 5 ∧ 0 ≤ x.f4 ∧ 0 ≤ x.f5
structure Good (l : List It) : Prop where
  len : l.length ≤ 128
  ok : ∀ x ∈ l, okIt x
  nd : (l.map (·.f0)).Nodup
theorem chkL_zero : ∀ (l : List It) (seen : List Int), chkL seen l = 0 ↔ (∀ x ∈ l, okIt x ∧ x.f0 ∉ seen) ∧ (l.map (·.f0)).Nodup := by
  intro l
  induction l with
  | nil => intro seen; simp [chkL]
  | cons x l ih =>
    intro seen
    rw [chkL]
    by_cases hb : badIt seen x
    · rw [if_pos hb]
      constructor
      · intro h; exact absurd h (by decide)
      · rintro ⟨h, _⟩
        have h1 := h x (by simp)
        obtain ⟨⟨a, b, c, d, e⟩, f⟩ := h1
        rcases hb with hb | hb | hb | hb | hb | hb
        · omega
        · exact absurd hb f
        · omega
        · omega
        · omega
        · omega
    · rw [if_neg hb, ih]
      unfold badIt at hb
      have hx : okIt x ∧ x.f0 ∉ seen := by
        refine ⟨⟨?_, ?_, ?_, ?_, ?_⟩, fun h => hb (Or.inr (Or.inl h))⟩ <;> omega
      simp only [List.map_cons, List.nodup_cons, List.mem_cons, List.mem_map, not_or, not_exists, not_and]
      constructor
      · rintro ⟨h1, h2⟩
        refine ⟨?_, ?_, h2⟩
        · rintro y (rfl | hy)
          · exact hx
          · exact ⟨(h1 y hy).1, (h1 y hy).2.2⟩
        · intro y hy e; exact (h1 y hy).2.1 e
      · rintro ⟨h1, h2, h3⟩
        exact ⟨fun y hy => ⟨(h1 y (Or.inr hy)).1, h2 y hy, (h1 y (Or.inr hy)).2⟩, h3⟩
theorem chkL_bit : ∀ (l : List It) (seen : List Int), chkL seen l = 0 ∨ chkL seen l = 1 := by
  intro l
  induction l with
  | nil => intro seen; left; rfl
  | cons x l ih =>
    intro seen; rw [chkL]; split
    · right; rfl
    · exact ih _
theorem chkV_zero (l : List It) : chkV l = 0 ↔ Good l := by
  unfold chkV
  split
  · rename_i h
    constructor
    · intro h; exact absurd h (by decide)
    · intro g; have := g.len; omega
  · rename_i h
    rw [chkL_zero]
    constructor
    · rintro ⟨a, b⟩; exact ⟨by omega, fun x hx => (a x hx).1, b⟩
    · intro g; exact ⟨fun x hx => ⟨g.ok x hx, by simp⟩, g.nd⟩

theorem rdI_at {l : List It} {i : Nat} (h : i < l.length) : rdI l (i : Int) = l[i] := by
  unfold rdI rd_T38
  rw [Int.toNat_natCast, List.getD_eq_getElem?_getD, List.getElem?_eq_getElem h]; rfl
theorem Good.okAt {l : List It} (g : Good l) {i : Nat} (h : i < l.length) : okIt (rdI l i) := by
  rw [rdI_at h]; exact g.ok _ (List.getElem_mem h)
theorem Good.inj {l : List It} (g : Good l) {i j : Nat} (hi : i < l.length) (hj : j < l.length) (e : (rdI l i).f0 = (rdI l j).f0) : i = j := by
  have h := g.nd
  rw [rdI_at hi, rdI_at hj] at e
  have h2 : ∀ a b (ha : a < l.length) (hb : b < l.length), a < b → l[a].f0 ≠ l[b].f0 := by
    intro a b ha hb hab he
    have h3 := List.pairwise_iff_getElem.1 h a b (by simpa using ha) (by simpa using hb) hab
    simp only [List.getElem_map] at h3
    exact h3 he
  rcases Nat.lt_trichotomy i j with h3 | h3 | h3
  · exact absurd e (h2 i j hi hj h3)
  · exact h3
  · exact absurd e.symm (h2 j i hj hi h3)

/-! ### places -/
def pl (l : List It) (c : Int) : Option Nat := l.findIdx? fun x => x.f0 == c
theorem pl_some {l : List It} {c : Int} {j : Nat} (h : pl l c = some j) : j < l.length ∧ (rdI l j).f0 = c := by
  unfold pl at h
  rw [List.findIdx?_eq_some_iff_getElem] at h
  obtain ⟨h1, h2, _⟩ := h
  refine ⟨h1, ?_⟩
  rw [rdI_at h1]; simpa using h2
theorem pl_none {l : List It} {c : Int} (h : pl l c = none) {j : Nat} (hj : j < l.length) : (rdI l j).f0 ≠ c := by
  unfold pl at h
  rw [List.findIdx?_eq_none_iff] at h
  rw [rdI_at hj]
  have := h _ (List.getElem_mem hj)
  simpa using this
theorem Good.pl_at {l : List It} (g : Good l) {i : Nat} (h : i < l.length) : pl l (rdI l i).f0 = some i := by
  cases e : pl l (rdI l i).f0 with
  | none => exact absurd rfl (pl_none e h)
  | some j =>
    obtain ⟨h1, h2⟩ := pl_some e
    rw [g.inj h1 h h2]
theorem idxF_pl : ∀ (l : List It) (c i : Int), idxF l c i = match pl l c with | some j => i + j | none => -1 := by
  intro l
  induction l with
  | nil => intro c i; rfl
  | cons x l ih =>
    intro c i
    unfold pl
    rw [idxF, List.findIdx?_cons]
    by_cases h : x.f0 = c
    · rw [if_pos h]; simp [h]
    · rw [if_neg h, ih]
      unfold pl
      rw [if_neg (by simpa using h)]
      cases l.findIdx? (fun x => x.f0 == c) with
      | none => rfl
      | some j => show i + 1 + (j : Int) = i + ((j + 1 : Nat) : Int); omega
theorem plM_none (l : List It) : ∀ (k : Nat) (c : Int), plM l k c = none → ∀ j, j < k → (rdI l j).f0 ≠ c := by
  intro k
  induction k with
  | zero => intro c h j hj; omega
  | succ k ih =>
    intro c h j hj
    simp only [plM] at h
    split at h
    · simp at h
    · rename_i e
      by_cases e2 : j = k
      · subst e2; exact fun h => e h.symm
      · exact ih c h j (by omega)
theorem Good.plM {l : List It} (g : Good l) (c : Int) : plM l l.length c = (pl l c).map (fun j : Nat => (j : Int)) := by
  cases e : pl l c with
  | none =>
    cases e2 : P.plM l l.length c with
    | none => rfl
    | some j =>
      obtain ⟨h1, h2, h3⟩ := plM_some l _ _ _ e2
      have := pl_none e (j := j.toNat) (by omega)
      rw [Int.toNat_of_nonneg h1] at this
      exact absurd h3 this
  | some i =>
    obtain ⟨i1, i2⟩ := pl_some e
    cases e2 : P.plM l l.length c with
    | none => exact absurd i2 (plM_none l _ _ e2 i i1)
    | some j =>
      obtain ⟨h1, h2, h3⟩ := plM_some l _ _ _ e2
      have : i = j.toNat := g.inj i1 (by omega) (by rw [i2, Int.toNat_of_nonneg h1, h3])
      show some j = some (i : Int)
      congr 1; omega

/-! ### who is told as an owner -/
def nx (l : List It) (i : Nat) : Option Nat :=
  if i < l.length then (match pl l (rdI l i).f2 with | some j => if j = i then none else some j | none => none) else none
theorem nx_some {l : List It} {i j : Nat} (h : nx l i = some j) : i < l.length ∧ j < l.length ∧ j ≠ i ∧ pl l (rdI l i).f2 = some j ∧ (rdI l j).f0 = (rdI l i).f2 := by
  unfold nx at h
  split at h
  · rename_i hi
    cases e : pl l (rdI l i).f2 with
    | none => rw [e] at h; simp at h
    | some k =>
      rw [e] at h
      simp only at h
      split at h
      · simp at h
      · rename_i hne
        injection h with h; subst h
        exact ⟨hi, (pl_some e).1, hne, rfl, (pl_some e).2⟩
  · simp at h
theorem nx_lt (l : List It) : ∀ i j, nx l i = some j → j < l.length := fun i j h => (nx_some h).2.1
def Yg (l : List It) (i j : Nat) : Bool := youngB (rdI l i) (rdI l j)
theorem youngB_iff (a b : It) : youngB a b = true ↔ (a.f5 > b.f5 ∨ (a.f5 = b.f5 ∧ a.f0 > b.f0)) := by
  unfold youngB
  simp
theorem youngB_not (a b : It) : youngB a b = false ↔ ¬ (a.f5 > b.f5 ∨ (a.f5 = b.f5 ∧ a.f0 > b.f0)) := by
  rw [← youngB_iff]; simp
theorem Good.young {l : List It} (g : Good l) : Young l.length (Yg l) := by
  refine ⟨?_, ?_, ?_⟩
  · intro i; unfold Yg; rw [youngB_not]; omega
  · intro i j k; unfold Yg; simp only [youngB_iff]; omega
  · intro i j hi hj hne
    unfold Yg; simp only [youngB_iff]
    have : (rdI l i).f0 ≠ (rdI l j).f0 := fun h => hne (g.inj hi hj h)
    omega

def osOf (l : List It) (g : Nat → Option Nat) : List Int := (List.range l.length).map fun (i : Nat) => if (g i).isSome = true then (rdI l i).f2 else 0
theorem osOf_len (l : List It) (g) : (osOf l g).length = l.length := by simp [osOf]
theorem osOf_at (l : List It) (g) {i : Nat} (h : i < l.length) : rd (osOf l g) (i : Int) = if (g i).isSome = true then (rdI l i).f2 else 0 := by
  unfold rd osOf
  rw [Int.toNat_natCast, List.getD_eq_getElem?_getD, List.getElem?_map, List.getElem?_range h]; rfl
theorem osOf_get (l : List It) (g) {i : Nat} (h : i < (osOf l g).length) : (osOf l g)[i] = if (g i).isSome = true then (rdI l (i : Int)).f2 else 0 := by simp [osOf]
theorem own0_get (l : List It) {i : Nat} (h : i < (P.own0 l).length) (h2 : i < l.length) : (P.own0 l)[i] = if (P.plM l l.length l[i].f2).isSome = true ∧ l[i].f2 ≠ l[i].f0 then l[i].f2 else 0 := by simp [P.own0]
theorem osOf_congr (l : List It) {g g' : Nat → Option Nat} (h : ∀ i, i < l.length → g i = g' i) : osOf l g = osOf l g' := by
  unfold osOf
  refine List.map_congr_left ?_
  intro i hi
  rw [h i (List.mem_range.1 hi)]
theorem osOf_set (l : List It) {g g' : Nat → Option Nat} {y : Nat} (h : ∀ i, i < l.length → g' i = if i = y then none else g i) : osOf l g' = (osOf l g).set y 0 := by
  refine List.ext_getElem (by simp [osOf]) ?_
  intro i h1 h2
  have hi : i < l.length := by simpa [osOf] using h1
  rw [List.getElem_set, osOf_get, osOf_get, h i hi]
  by_cases e : i = y
  · rw [if_pos e, if_pos e.symm]; rfl
  · have e' : ¬ y = i := fun h => e h.symm
    rw [if_neg e, if_neg e']
theorem Good.own0 {l : List It} (g : Good l) : own0 l = osOf l (nx l) := by
  refine List.ext_getElem (by simp [osOf, P.own0]) ?_
  intro i h1 h2
  have hi : i < l.length := by simpa [osOf] using h2
  rw [own0_get l h1 hi, osOf_get, rdI_at hi, g.plM]
  have hc : (((pl l l[i].f2).map (fun j : Nat => (j : Int))).isSome = true ∧ l[i].f2 ≠ l[i].f0) ↔ (nx l i).isSome = true := by
    unfold nx
    rw [if_pos hi, rdI_at hi]
    cases e : pl l l[i].f2 with
    | none => simp
    | some j =>
      obtain ⟨j1, j2⟩ := pl_some e
      by_cases e2 : j = i
      · subst e2
        rw [rdI_at hi] at j2
        simp [j2]
      · have : l[i].f2 ≠ l[i].f0 := by
          intro h
          rw [h, ← rdI_at hi] at j2
          exact e2 (g.inj j1 hi j2)
        simp [e2, this]
  by_cases hq : (nx l i).isSome = true
  · rw [if_pos (hc.2 hq), if_pos hq]
  · rw [if_neg (fun h => hq (hc.1 h)), if_neg hq]

/-! ### rings -/
def rg (g : Nat → Option Nat) (i m : Nat) : List Int := (List.range m).map fun a => (((it g a i).getD 0 : Nat) : Int)
theorem rg_len (g i m) : (rg g i m).length = m := by simp [rg]
theorem rg_succ (g i m) : rg g i (m + 1) = rg g i m ++ [(((it g m i).getD 0 : Nat) : Int)] := by
  unfold rg; rw [List.range_succ, List.map_append]; rfl
theorem rg_one (g i) : rg g i 1 = [(i : Int)] := rfl
/-- a step of around -/
theorem around_step {l : List It} (gd : Good l) {g : Nat → Option Nat} (hg : ∀ i j, g i = some j → nx l i = some j) {k j : Nat} (hk : k < l.length) (h : g k = some j) :
    rd (osOf l g) (k : Int) ≠ 0 ∧ (plM l l.length (rd (osOf l g) (k : Int))).getD 0 = (j : Int) := by
  obtain ⟨h1, h2, h3, h4, h5⟩ := nx_some (hg _ _ h)
  rw [osOf_at l g hk, h]
  simp only [Option.isSome_some, if_true]
  refine ⟨?_, ?_⟩
  · have := (gd.okAt h2).1; omega
  · rw [gd.plM, h4]; rfl
theorem around_stop {l : List It} {g : Nat → Option Nat} {k : Nat} (hk : k < l.length) (h : g k = none) : rd (osOf l g) (k : Int) = 0 := by
  rw [osOf_at l g hk, h]; rfl
theorem around_ring {l : List It} (gd : Good l) {g : Nat → Option Nat} (hg : ∀ i j, g i = some j → nx l i = some j) {i p : Nat} (hi : i < l.length) (hp : it g p i = some i) (hl : ∀ q, 0 < q → q < p → it g q i ≠ some i) (hpn : p ≤ l.length) :
    ∀ (f m k : Nat), 0 < m → m ≤ p → p < m + f → it g (m - 1) i = some k → aroundL (plM l l.length) (osOf l g) (i : Int) f (k : Int) (rg g i m) = rg g i p := by
  have hb : ∀ i j, g i = some j → j < l.length := fun i j h => (nx_some (hg i j h)).2.1
  intro f
  induction f with
  | zero => intro m k h1 h2 h3; omega
  | succ f ih =>
    intro m k h0 hm hf hk
    have hkl := it_lt hb hi hk
    have h1 : it g (m + (p - m)) i = some i := by rw [show m + (p - m) = p by omega]; exact hp
    obtain ⟨j, hj, _⟩ := it_prev h1
    have hgk : g k = some j := by
      have h2 : it g ((m - 1) + 1) i = some j := by rw [show m - 1 + 1 = m by omega]; exact hj
      rw [it_succ, hk] at h2; exact h2
    obtain ⟨s1, s2⟩ := around_step gd hg hkl hgk
    rw [aroundL, if_neg s1, if_neg (by rw [osOf_len, rg_len]; omega), s2]
    by_cases e : j = i
    · subst e
      rw [if_pos rfl]
      have : ¬ m < p := fun h => hl m h0 h hj
      rw [show m = p by omega]
    · rw [if_neg (by omega)]
      have hmp : m ≠ p := by
        intro h
        subst h
        rw [hp] at hj; injection hj with hj
        exact e hj.symm
      have := ih (m + 1) j (by omega) (by omega) (by omega) (by rw [show m + 1 - 1 = m by omega]; exact hj)
      rw [rg_succ, hj] at this
      exact this
theorem around_none {l : List It} (gd : Good l) {g : Nat → Option Nat} (hg : ∀ i j, g i = some j → nx l i = some j) {i : Nat} (hi : i < l.length) (hr : ¬ InRing g i) :
    ∀ (f m k : Nat) (ring : List Int), it g m i = some k → aroundL (plM l l.length) (osOf l g) (i : Int) f (k : Int) ring = [] := by
  have hb : ∀ i j, g i = some j → j < l.length := fun i j h => (nx_some (hg i j h)).2.1
  intro f
  induction f with
  | zero => intro m k ring h; rfl
  | succ f ih =>
    intro m k ring hk
    have hkl := it_lt hb hi hk
    rw [aroundL]
    cases e : g k with
    | none => rw [if_pos (around_stop hkl e)]
    | some j =>
      obtain ⟨s1, s2⟩ := around_step gd hg hkl e
      have hj : it g (m + 1) i = some j := by rw [it_succ, hk]; exact e
      rw [if_neg s1, s2]
      split
      · rfl
      · rw [if_neg (by
          intro h
          have : j = i := by omega
          subst this
          exact hr ⟨m + 1, by omega, hj⟩)]
        exact ih (m + 1) j _ hj

/-! ### the youngest of a ring -/
theorem fold_top (l : List It) : ∀ (r : List Int) (c : Int),
    youngB (rdI l c) (rdI l (r.foldl (fun cut k => if youngB (rdI l k) (rdI l cut) then k else cut) c)) = false ∧ ∀ x ∈ r, youngB (rdI l x) (rdI l (r.foldl (fun cut k => if youngB (rdI l k) (rdI l cut) then k else cut) c)) = false := by
  intro r
  induction r with
  | nil => intro c; refine ⟨?_, by simp⟩; simp only [List.foldl_nil]; rw [youngB_not]; omega
  | cons k r ih =>
    intro c
    simp only [List.foldl_cons]
    obtain ⟨h1, h2⟩ := ih (if youngB (rdI l k) (rdI l c) then k else c)
    generalize hC : r.foldl (fun cut k => if youngB (rdI l k) (rdI l cut) then k else cut) (if youngB (rdI l k) (rdI l c) then k else c) = C at h1 h2 ⊢
    cases e : youngB (rdI l k) (rdI l c) with
    | true =>
      rw [e] at h1
      simp only [if_true] at h1
      rw [youngB_iff] at e
      refine ⟨?_, ?_⟩
      · rw [youngB_not] at h1 ⊢; omega
      · intro x hx
        rcases List.mem_cons.1 hx with rfl | hx
        · exact h1
        · exact h2 x hx
    | false =>
      rw [e] at h1
      rw [if_neg (by decide)] at h1
      rw [youngB_not] at e
      refine ⟨h1, ?_⟩
      intro x hx
      rcases List.mem_cons.1 hx with rfl | hx
      · rw [youngB_not] at h1 ⊢; omega
      · exact h2 x hx
theorem rg_mem {g : Nat → Option Nat} {i p : Nat} (hs : ∀ a, a < p → ∃ k, it g a i = some k) (x : Int) : x ∈ rg g i p ↔ ∃ a k : Nat, a < p ∧ it g a i = some k ∧ x = (k : Int) := by
  unfold rg
  rw [List.mem_map]
  constructor
  · rintro ⟨a, ha, rfl⟩
    obtain ⟨k, e⟩ := hs a (List.mem_range.1 ha)
    exact ⟨a, k, List.mem_range.1 ha, e, by rw [e]; rfl⟩
  · rintro ⟨a, k, ha, e, rfl⟩
    exact ⟨a, List.mem_range.2 ha, by rw [e]; rfl⟩
theorem cutOf_ring {l : List It} (gd : Good l) {g : Nat → Option Nat} (hg : ∀ i j, g i = some j → nx l i = some j) {i p : Nat} (hi : i < l.length) (h0 : 0 < p) (hp : it g p i = some i) :
    ∃ a y : Nat, it g a i = some y ∧ cutOf l (rg g i p) = (y : Int) ∧ Cut (nx l) (Yg l) y := by
  have hle : ∀ {m i x : Nat}, it g m i = some x → it (nx l) m i = some x := by
    intro m
    induction m with
    | zero => intro i x h; exact h
    | succ m ih =>
      intro i x h
      rw [it_succ] at h ⊢
      obtain ⟨j, hj, hx⟩ := Option.bind_eq_some_iff.1 h
      rw [ih hj]; exact hg _ _ hx
  have hs : ∀ a, a < p → ∃ k, it g a i = some k := by
    intro a ha
    have h1 : it g (a + (p - a)) i = some i := by rw [show a + (p - a) = p by omega]; exact hp
    obtain ⟨j, hj, _⟩ := it_prev h1
    exact ⟨j, hj⟩
  have hpos : 0 < (rg g i p).length := by rw [rg_len]; exact h0
  have hmem : cutOf l (rg g i p) ∈ rg g i p := by
    rw [← foldC_all]; exact foldC_mem l _ hpos _ (Nat.le_refl _)
  obtain ⟨a, y, ha, hy, hc⟩ := (rg_mem hs _).1 hmem
  refine ⟨a, y, hy, hc, (ring_back ⟨p, h0, hle hp⟩ (hle hy)).choose_spec.2, ?_⟩
  intro m k hk
  have hk2 : it (nx l) ((a + m) % p) i = some k := by
    rw [← it_mod h0 (hle hp), it_add, hle hy]; exact hk
  obtain ⟨k', hk'⟩ := hs ((a + m) % p) (Nat.mod_lt _ h0)
  have := hle hk'
  rw [hk2] at this; injection this with this; subst this
  have h3 := (fold_top l (rg g i p) (rd (rg g i p) 0)).2 (k : Int) ((rg_mem hs _).2 ⟨_, k, Nat.mod_lt _ h0, hk', rfl⟩)
  have h4 : (rg g i p).foldl (fun cut k => if youngB (rdI l k) (rdI l cut) then k else cut) (rd (rg g i p) 0) = (y : Int) := hc
  rw [h4] at h3
  exact h3

/-! ### the owners -/
theorem Good.steps {l : List It} (gd : Good l) : ∀ k, k ≤ l.length → stepsL l k = osOf l (cur (nx l) (Yg l) k) := by
  intro k
  induction k with
  | zero => intro _; rw [stepsL, cur_zero, gd.own0]
  | succ k ih =>
    intro hk
    have hk' : k < l.length := by omega
    have hg : ∀ i j, cur (nx l) (Yg l) k i = some j → nx l i = some j := fun i j h => cur_le h
    have hb : ∀ i j, cur (nx l) (Yg l) k i = some j → j < l.length := fun i j h => nx_lt l i j (hg i j h)
    rw [stepsL, ih (by omega), stepL, osOf_len]
    by_cases hr : InRing (cur (nx l) (Yg l) k) k
    · obtain ⟨p, h0, hp, hl⟩ := least hr
      have hpn := least_le hb hk' hp hl
      have ha := around_ring gd hg hk' hp hl hpn (l.length + 2) 1 k (by omega) (by omega) (by omega) rfl
      rw [rg_one] at ha
      rw [ha]
      obtain ⟨a, y, hy, hc, cy⟩ := cutOf_ring gd hg hk' h0 hp
      rw [if_neg (by intro h; have := congrArg List.length h; rw [rg_len] at this; simp at this; omega), hc, Int.toNat_natCast]
      symm
      refine osOf_set l ?_
      intro j hj
      exact cur_step_yes (nx_lt l) gd.young hk' (it_cur_le hy) cy ((cur_ring (nx_lt l) gd.young hk').1 hr).1 j hj
    · rw [if_pos (around_none gd hg hk' hr _ 0 k _ rfl)]
      refine osOf_congr l ?_
      intro j _
      exact (cur_step_no (nx_lt l) gd.young hk' hr j).symm
noncomputable def Gr (l : List It) : Nat → Option Nat := cur (nx l) (Yg l) l.length
noncomputable def ownS (l : List It) : List Int := osOf l (Gr l)
theorem Good.owners {l : List It} (gd : Good l) : ownersL l = ownS l := gd.steps _ (Nat.le_refl _)
open Classical in
noncomputable def ownV (l : List It) : List Int := if Good l then ownS l else []
theorem owners_f {l : List It} (hw : ∀ x ∈ l, wfIt x) : order_Owners.f l = some (ownV l) := by
  have hc : order_Check.f l = some (chkV l) := by unfold order_Check.f; rw [if_pos hw]; rfl
  unfold order_Owners.f ownV
  rw [hc, Option.bind_some]
  by_cases h : Good l
  · rw [if_pos ((chkV_zero l).2 h), if_pos h, h.owners]
  · rw [if_neg (fun e => h ((chkV_zero l).1 e)), if_neg h]
theorem check_f {l : List It} (hw : ∀ x ∈ l, wfIt x) : order_Check.f l = some (chkV l) := by unfold order_Check.f; rw [if_pos hw]; rfl

/-! ### what is left has no rings -/
theorem Gr_nx {l : List It} {i j : Nat} (h : Gr l i = some j) : nx l i = some j := cur_le h
theorem Gr_lt {l : List It} : ∀ i j, Gr l i = some j → j < l.length := fun i j h => nx_lt l i j (Gr_nx h)
theorem Good.noring {l : List It} (gd : Good l) {i : Nat} (hi : i < l.length) : ¬ InRing (Gr l) i := no_ring (nx_lt l) gd.young hi
theorem Good.ends {l : List It} (gd : Good l) {i : Nat} (hi : i < l.length) : it (Gr l) l.length i = none := by
  cases e : it (Gr l) l.length i with
  | none => rfl
  | some z =>
    exfalso
    have hs : ∀ a, a < l.length + 1 → ∃ k, it (Gr l) a i = some k := by
      intro a ha
      have h1 : it (Gr l) (a + (l.length - a)) i = some z := by rw [show a + (l.length - a) = l.length by omega]; exact e
      obtain ⟨j, hj, _⟩ := it_prev h1
      exact ⟨j, hj⟩
    have key : ∀ a b k, a < b → b < l.length + 1 → it (Gr l) a i = some k → it (Gr l) b i = some k → False := by
      intro a b k hab hb e1 e2
      have h1 : it (Gr l) (a + (b - a)) i = some k := by rw [show a + (b - a) = b by omega]; exact e2
      obtain ⟨j, hj, hjk⟩ := it_prev h1
      rw [e1] at hj; injection hj with hj; subst hj
      exact gd.noring (it_lt Gr_lt hi e1) ⟨b - a, by omega, hjk⟩
    have h := nodup_le l.length ((List.range (l.length + 1)).map fun a => (it (Gr l) a i).getD 0) (by
      rw [List.Nodup, List.pairwise_map]
      refine List.Pairwise.imp_of_mem ?_ (List.nodup_range (n := l.length + 1))
      intro a b ha hb2 hab he
      obtain ⟨k1, e1⟩ := hs a (List.mem_range.1 ha)
      obtain ⟨k2, e2⟩ := hs b (List.mem_range.1 hb2)
      rw [e1, e2] at he
      simp only [Option.getD_some] at he
      subst he
      rcases Nat.lt_trichotomy a b with h | h | h
      · exact key a b k1 h (List.mem_range.1 hb2) e1 e2
      · exact hab h
      · exact key b a k1 h (List.mem_range.1 ha) e2 e1) (by
      intro x hx
      obtain ⟨a, ha, rfl⟩ := List.mem_map.1 hx
      obtain ⟨k, e⟩ := hs a (List.mem_range.1 ha)
      simp only [e, Option.getD_some]
      exact it_lt Gr_lt hi e)
    simp at h
    omega
end Go.Proofs.Ytplchdlcolepmaa.G
