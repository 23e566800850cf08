/-
  Who owns whom, as a function from places to places: rings, the youngest of a ring, and that cutting ring by ring at the youngest leaves just the owners of those that are not the youngest of a ring. Plain Lean, no program.
-/
import Derived.Test.YtplchdlcolepmaaEv
namespace Go.Proofs.Ytplchdlcolepmaa.G
set_option linter.unusedVariables false
set_option linter.unusedSimpArgs false

def it (nx : Nat → Option Nat) : Nat → Nat → Option Nat
  | 0, i => some i
  | m + 1, i => (it nx m i).bind nx
theorem it_zero (nx) (i : Nat) : it nx 0 i = some i := rfl
theorem it_succ (nx) (m i : Nat) : it nx (m + 1) i = (it nx m i).bind nx := rfl
theorem it_add (nx) (a b i : Nat) : it nx (a + b) i = (it nx a i).bind (it nx b) := by
  induction b with
  | zero => rw [Nat.add_zero]; cases it nx a i <;> rfl
  | succ b ih => rw [← Nat.add_assoc, it_succ, ih]; cases it nx a i <;> rfl
theorem it_one (nx) (i : Nat) : it nx 1 i = nx i := rfl
theorem it_succ' (nx) (m i : Nat) : it nx (m + 1) i = (nx i).bind (it nx m) := by rw [Nat.add_comm, it_add]; rfl
theorem it_prev {nx} {a b i k : Nat} (h : it nx (a + b) i = some k) : ∃ j, it nx a i = some j ∧ it nx b j = some k := by
  rw [it_add] at h; exact Option.bind_eq_some_iff.1 h
theorem it_lt {nx : Nat → Option Nat} {n : Nat} (hb : ∀ i j, nx i = some j → j < n) {m i k : Nat} (hi : i < n) (h : it nx m i = some k) : k < n := by
  cases m with
  | zero => rw [it_zero] at h; injection h with h; omega
  | succ m => rw [it_succ] at h; obtain ⟨j, _, hj⟩ := Option.bind_eq_some_iff.1 h; exact hb _ _ hj

def InRing (nx : Nat → Option Nat) (i : Nat) : Prop := ∃ m, 0 < m ∧ it nx m i = some i
/-- a ring's turns -/
theorem it_turns {nx} {p i : Nat} (h : it nx p i = some i) : ∀ q m, it nx (q * p + m) i = it nx m i := by
  intro q
  induction q with
  | zero => intro m; simp
  | succ q ih =>
    intro m
    have : (q + 1) * p + m = p + (q * p + m) := by rw [Nat.add_mul]; omega
    rw [this, it_add, h]
    exact ih m
theorem it_mod {nx} {p i : Nat} (hp : 0 < p) (h : it nx p i = some i) (m : Nat) : it nx m i = it nx (m % p) i := by
  have := it_turns h (m / p) (m % p)
  rw [Nat.mul_comm, Nat.div_add_mod] at this
  exact this
/-- who is reached from a ring leads back -/
theorem ring_back {nx} {i k m : Nat} (hi : InRing nx i) (h : it nx m i = some k) : ∃ m', it nx m' k = some i ∧ InRing nx k := by
  obtain ⟨p, hp, hpi⟩ := hi
  have h1 : it nx (m + (p * (m + 1) - m)) i = some i := by
    have h2 : m + (p * (m + 1) - m) = (m + 1) * p + 0 := by
      have : m + 1 ≤ p * (m + 1) := Nat.le_mul_of_pos_left _ hp
      rw [Nat.mul_comm] at this ⊢; omega
    rw [h2, it_turns hpi]; rfl
  obtain ⟨j, hj, hji⟩ := it_prev h1
  rw [h] at hj
  injection hj with hj
  subst hj
  refine ⟨_, hji, (p * (m + 1) - m) + m, ?_, ?_⟩
  · have : m + 1 ≤ p * (m + 1) := Nat.le_mul_of_pos_left _ hp
    omega
  · rw [it_add, hji]; exact h
/-- the least turn -/
theorem least {nx} {i : Nat} (hi : InRing nx i) : ∃ p, 0 < p ∧ it nx p i = some i ∧ ∀ q, 0 < q → q < p → it nx q i ≠ some i := by
  obtain ⟨m, hm, hmi⟩ := hi
  induction m using Nat.strongRecOn with
  | _ m ih =>
    by_cases h : ∃ q, 0 < q ∧ q < m ∧ it nx q i = some i
    · obtain ⟨q, hq, hqm, hqi⟩ := h
      exact ih q hqm hq hqi
    · exact ⟨m, hm, hmi, fun q hq hqm hqi => h ⟨q, hq, hqm, hqi⟩⟩
theorem least_inj {nx} {i p : Nat} (hp : it nx p i = some i) (hl : ∀ q, 0 < q → q < p → it nx q i ≠ some i) {a b k : Nat} (ha : a < p) (hb : b < p) (e1 : it nx a i = some k) (e2 : it nx b i = some k) : a = b := by
  have key : ∀ a b, a < b → b < p → it nx a i = some k → it nx b i = some k → False := by
    intro a b hab hb e1 e2
    have h1 : it nx (b + (p - b)) i = some i := by rw [show b + (p - b) = p by omega]; exact hp
    obtain ⟨j, hj, hji⟩ := it_prev h1
    rw [e2] at hj; injection hj with hj; subst hj
    have h2 : it nx (a + (p - b)) i = some i := by rw [it_add, e1]; exact hji
    exact hl (a + (p - b)) (by omega) (by omega) h2
  rcases Nat.lt_trichotomy a b with h | h | h
  · exact (key a b h hb e1 e2).elim
  · exact h
  · exact (key b a h ha e2 e1).elim
theorem nodup_le : ∀ (n : Nat) (L : List Nat), L.Nodup → (∀ x ∈ L, x < n) → L.length ≤ n := by
  intro n
  induction n with
  | zero =>
    intro L _ h
    cases L with
    | nil => simp
    | cons x L => have := h x (by simp); omega
  | succ n ih =>
    intro L hn h
    have h1 := ih (L.erase n) (hn.erase n) (fun x hx => by
      have := (hn.mem_erase_iff).1 hx
      have h2 := h x this.2
      omega)
    rw [List.length_erase] at h1
    split at h1 <;> omega
theorem least_le {nx : Nat → Option Nat} {n : Nat} (hb : ∀ i j, nx i = some j → j < n) {i p : Nat} (hi : i < n) (hp : it nx p i = some i) (hl : ∀ q, 0 < q → q < p → it nx q i ≠ some i) : p ≤ n := by
  have hs : ∀ a, a < p → ∃ k, it nx a i = some k := by
    intro a ha
    have h1 : it nx (a + (p - a)) i = some i := by rw [show a + (p - a) = p by omega]; exact hp
    obtain ⟨j, hj, _⟩ := it_prev h1
    exact ⟨j, hj⟩
  have h := nodup_le n ((List.range p).map fun a => (it nx a i).getD 0) (by
    rw [List.Nodup, List.pairwise_map]
    refine List.Pairwise.imp_of_mem ?_ (List.nodup_range (n := p))
    intro a b ha hb2 hab he
    obtain ⟨k1, e1⟩ := hs a (List.mem_range.1 ha)
    obtain ⟨k2, e2⟩ := hs b (List.mem_range.1 hb2)
    rw [e1, e2] at he
    simp only [Option.getD_some] at he
    subst he
    exact hab (least_inj hp hl (List.mem_range.1 ha) (List.mem_range.1 hb2) e1 e2)) (by
    intro x hx
    obtain ⟨a, ha, rfl⟩ := List.mem_map.1 hx
    obtain ⟨k, e⟩ := hs a (List.mem_range.1 ha)
    simp only [e, Option.getD_some]
    exact it_lt hb hi e)
  simpa using h

/-! ### the youngest of a ring -/
/-- younger than: a strict order of all places -/
structure Young (n : Nat) (Y : Nat → Nat → Bool) : Prop where
  irr : ∀ i, Y i i = false
  trans : ∀ i j k, Y i j = true → Y j k = true → Y i k = true
  total : ∀ i j, i < n → j < n → i ≠ j → Y i j = true ∨ Y j i = true
def Top (nx : Nat → Option Nat) (Y : Nat → Nat → Bool) (i : Nat) : Prop := ∀ m k, it nx m i = some k → Y k i = false
def Cut (nx : Nat → Option Nat) (Y : Nat → Nat → Bool) (i : Nat) : Prop := InRing nx i ∧ Top nx Y i
/-- one ring has one youngest -/
theorem cut_uniq {nx : Nat → Option Nat} {n : Nat} {Y : Nat → Nat → Bool} (hY : Young n Y) {i j m : Nat} (hi : i < n) (hj : j < n) (ci : Cut nx Y i) (cj : Cut nx Y j) (h : it nx m i = some j) : i = j := by
  by_cases e : i = j
  · exact e
  · obtain ⟨m', h', _⟩ := ring_back ci.1 h
    have h1 := ci.2 m j h
    have h2 := cj.2 m' i h'
    rcases hY.total i j hi hj e with h3 | h3
    · rw [h2] at h3; exact absurd h3 (by decide)
    · rw [h1] at h3; exact absurd h3 (by decide)
/-- the youngest of a list -/
theorem top_of_list {n : Nat} {Y : Nat → Nat → Bool} (hY : Young n Y) : ∀ L : List Nat, L ≠ [] → (∀ x ∈ L, x < n) → ∃ y ∈ L, ∀ x ∈ L, Y x y = false := by
  intro L
  induction L with
  | nil => intro h; exact absurd rfl h
  | cons a L ih =>
    intro _ hb
    cases L with
    | nil => exact ⟨a, by simp, by intro x hx; simp at hx; subst hx; exact hY.irr x⟩
    | cons b L =>
      obtain ⟨y, hy, ht⟩ := ih (by simp) (fun x hx => hb x (List.mem_cons_of_mem _ hx))
      cases h : Y a y with
      | false =>
        refine ⟨y, List.mem_cons_of_mem _ hy, ?_⟩
        intro x hx
        rcases List.mem_cons.1 hx with rfl | hx
        · exact h
        · exact ht x hx
      | true =>
        refine ⟨a, by simp, ?_⟩
        intro x hx
        rcases List.mem_cons.1 hx with rfl | hx
        · exact hY.irr x
        · cases h2 : Y x a with
          | false => rfl
          | true => have := hY.trans x a y h2 h; rw [ht x hx] at this; exact absurd this (by decide)
theorem ring_top {nx : Nat → Option Nat} {n : Nat} (hb : ∀ i j, nx i = some j → j < n) {Y : Nat → Nat → Bool} (hY : Young n Y) {i : Nat} (hi : i < n) (hr : InRing nx i) : ∃ m y, it nx m i = some y ∧ Cut nx Y y := by
  obtain ⟨p, hp, hpi, hl⟩ := least hr
  have hs : ∀ a, a < p → ∃ k, it nx a i = some k := by
    intro a ha
    have h1 : it nx (a + (p - a)) i = some i := by rw [show a + (p - a) = p by omega]; exact hpi
    obtain ⟨j, hj, _⟩ := it_prev h1
    exact ⟨j, hj⟩
  have hmem : ∀ x, x ∈ ((List.range p).map fun a => (it nx a i).getD 0) ↔ ∃ a, a < p ∧ it nx a i = some x := by
    intro x
    constructor
    · intro hx
      obtain ⟨a, ha, rfl⟩ := List.mem_map.1 hx
      obtain ⟨k, e⟩ := hs a (List.mem_range.1 ha)
      exact ⟨a, List.mem_range.1 ha, by rw [e]; rfl⟩
    · rintro ⟨a, ha, e⟩
      exact List.mem_map.2 ⟨a, List.mem_range.2 ha, by rw [e]; rfl⟩
  obtain ⟨y, hy, ht⟩ := top_of_list hY ((List.range p).map fun a => (it nx a i).getD 0) (by
    intro h
    have := congrArg List.length h
    simp at this; omega) (fun x hx => by obtain ⟨a, _, e⟩ := (hmem x).1 hx; exact it_lt hb hi e)
  obtain ⟨a, ha, e⟩ := (hmem y).1 hy
  refine ⟨a, y, e, (ring_back hr e).choose_spec.2, ?_⟩
  intro m k hk
  refine ht k ((hmem k).2 ⟨(a + m) % p, Nat.mod_lt _ hp, ?_⟩)
  rw [← it_mod hp hpi, it_add, e]; exact hk

/-! ### cutting ring by ring -/
open Classical in
/-- the owners behind the first k places' rings were cut -/
noncomputable def cur (nx : Nat → Option Nat) (Y : Nat → Nat → Bool) (k j : Nat) : Option Nat :=
  if Cut nx Y j ∧ ∃ m t, it nx m j = some t ∧ t < k then none else nx j
theorem cur_le {nx Y} {k j x : Nat} (h : cur nx Y k j = some x) : nx j = some x := by
  unfold cur at h; split at h
  · exact absurd h (by simp)
  · exact h
theorem it_cur_le {nx Y} {k : Nat} : ∀ {m i x : Nat}, it (cur nx Y k) m i = some x → it nx m i = some x := by
  intro m
  induction m with
  | zero => intro i x h; exact h
  | succ m ih =>
    intro i x h
    rw [it_succ] at h ⊢
    obtain ⟨j, hj, hx⟩ := Option.bind_eq_some_iff.1 h
    rw [ih hj]; exact cur_le hx
theorem cur_zero (nx : Nat → Option Nat) (Y) : cur nx Y 0 = nx := by
  funext j; unfold cur; rw [if_neg]; rintro ⟨_, m, t, _, ht⟩; omega
/-- a ring none of whose places was looked at still stands -/
theorem cur_whole {nx Y} {k i : Nat} (h : ∀ m t, it nx m i = some t → ¬ t < k) : ∀ m, it (cur nx Y k) m i = it nx m i := by
  intro m
  induction m with
  | zero => rfl
  | succ m ih =>
    rw [it_succ, it_succ, ih]
    cases e : it nx m i with
    | none => rfl
    | some j =>
      show cur nx Y k j = nx j
      unfold cur
      rw [if_neg]
      rintro ⟨_, q, t, hq, ht⟩
      exact h (m + q) t (by rw [it_add, e]; exact hq) ht
/-- a place is in a ring of what is left just if it was in one none of whose places was looked at -/
theorem cur_ring {nx : Nat → Option Nat} {n : Nat} (hb : ∀ i j, nx i = some j → j < n) {Y : Nat → Nat → Bool} (hY : Young n Y) {k i : Nat} (hi : i < n) : InRing (cur nx Y k) i ↔ InRing nx i ∧ ∀ m t, it nx m i = some t → ¬ t < k := by
  constructor
  · rintro ⟨p, hp, hpi⟩
    have hpn := it_cur_le hpi
    refine ⟨⟨p, hp, hpn⟩, ?_⟩
    intro m t hm ht
    obtain ⟨a, y, ha, cy⟩ := ring_top hb hY hi ⟨p, hp, hpn⟩
    -- the youngest is cut
    have hcy : cur nx Y k y = none := by
      unfold cur
      rw [if_pos]
      obtain ⟨b, hby, _⟩ := ring_back ⟨p, hp, hpn⟩ ha
      exact ⟨cy, b + m, t, by rw [it_add, hby]; exact hm, ht⟩
    -- but the ring of what is left comes by it
    have h1 : it (cur nx Y k) (a % p) i = some y := by
      have h2 : it nx (a % p) i = some y := by rw [← it_mod hp hpn]; exact ha
      have h3 : it (cur nx Y k) (a % p + (p - a % p)) i = some i := by
        rw [show a % p + (p - a % p) = p by have := Nat.mod_lt a hp; omega]; exact hpi
      obtain ⟨j, hj, _⟩ := it_prev h3
      have := it_cur_le hj
      rw [h2] at this; injection this with this; subst this; exact hj
    have h4 : it (cur nx Y k) ((a % p + 1) + (p - (a % p + 1))) i = some i := by
      rw [show (a % p + 1) + (p - (a % p + 1)) = p by have := Nat.mod_lt a hp; omega]; exact hpi
    obtain ⟨j, hj, _⟩ := it_prev h4
    rw [it_succ, h1] at hj
    have : cur nx Y k y = some j := hj
    rw [hcy] at this; exact absurd this (by simp)
  · rintro ⟨⟨p, hp, hpi⟩, h⟩
    exact ⟨p, hp, by rw [cur_whole h]; exact hpi⟩
/-- a step at a place that is in no ring of what is left changes nothing -/
theorem cur_step_no {nx : Nat → Option Nat} {n : Nat} (hb : ∀ i j, nx i = some j → j < n) {Y : Nat → Nat → Bool} (hY : Young n Y) {k : Nat} (hk : k < n) (h : ¬ InRing (cur nx Y k) k) (j : Nat) : cur nx Y (k + 1) j = cur nx Y k j := by
  unfold cur
  by_cases c : Cut nx Y j ∧ ∃ m t, it nx m j = some t ∧ t < k
  · rw [if_pos c, if_pos ⟨c.1, by obtain ⟨m, t, a, b⟩ := c.2; exact ⟨m, t, a, by omega⟩⟩]
  · rw [if_neg c, if_neg]
    rintro ⟨cj, m, t, hm, ht⟩
    by_cases e : t < k
    · exact c ⟨cj, m, t, hm, e⟩
    · obtain rfl : t = k := by omega
      obtain ⟨m', hm', hr⟩ := ring_back cj.1 hm
      apply h
      rw [cur_ring hb hY hk]
      refine ⟨hr, ?_⟩
      intro q s hq hs
      exact c ⟨cj, m + q, s, by rw [it_add, hm]; exact hq, hs⟩
/-- a step at a place in a ring of what is left cuts its youngest -/
theorem cur_step_yes {nx : Nat → Option Nat} {n : Nat} (hb : ∀ i j, nx i = some j → j < n) {Y : Nat → Nat → Bool} (hY : Young n Y) {k y m : Nat} (hk : k < n) (hy : it nx m k = some y) (cy : Cut nx Y y) (hr : InRing nx k) (j : Nat) (hjn : j < n) : cur nx Y (k + 1) j = if j = y then none else cur nx Y k j := by
  by_cases e : j = y
  · subst e
    rw [if_pos rfl]
    unfold cur
    rw [if_pos]
    obtain ⟨m', hm', _⟩ := ring_back hr hy
    exact ⟨cy, m', k, hm', by omega⟩
  · rw [if_neg e]
    unfold cur
    by_cases c : Cut nx Y j ∧ ∃ m t, it nx m j = some t ∧ t < k
    · rw [if_pos c, if_pos ⟨c.1, by obtain ⟨m, t, a, b⟩ := c.2; exact ⟨m, t, a, by omega⟩⟩]
    · rw [if_neg c, if_neg]
      rintro ⟨cj, q, t, hq, ht⟩
      by_cases e2 : t < k
      · exact c ⟨cj, q, t, hq, e2⟩
      · obtain rfl : t = k := by omega
        have : it nx (q + m) j = some y := by rw [it_add, hq]; exact hy
        exact e (cut_uniq hY hjn (it_lt hb hk hy) cj cy this)
/-- behind all places just the youngest of each ring are cut -/
theorem cur_all {nx : Nat → Option Nat} {n : Nat} {Y : Nat → Nat → Bool} {j : Nat} (hj : j < n) : (Cut nx Y j → cur nx Y n j = none) ∧ (¬ Cut nx Y j → cur nx Y n j = nx j) := by
  unfold cur
  constructor
  · intro c; rw [if_pos ⟨c, 0, j, rfl, hj⟩]
  · intro c; rw [if_neg (fun h => c h.1)]
/-- what is left has no rings -/
theorem no_ring {nx : Nat → Option Nat} {n : Nat} (hb : ∀ i j, nx i = some j → j < n) {Y : Nat → Nat → Bool} (hY : Young n Y) {i : Nat} (hi : i < n) : ¬ InRing (cur nx Y n) i := by
  rw [cur_ring hb hY hi]
  rintro ⟨_, h⟩
  exact h 0 i rfl hi
end Go.Proofs.Ytplchdlcolepmaa.G
