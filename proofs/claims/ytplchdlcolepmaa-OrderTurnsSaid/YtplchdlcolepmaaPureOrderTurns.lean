/-
  The order in which things are handed in plays no part. Plain Lean.
-/
import Derived.Test.YtplchdlcolepmaaOAt
import Derived.Test.YtplchdlcolepmaaQOrderTurns
namespace Go.Proofs.Ytplchdlcolepmaa.G
open Go.Proofs.Ytplchdlcolepmaa.P Go.Proofs.Ytplchdlcolepmaa.E Go.Proofs.Ytplchdlcolepmaa.O Go.RowKit Go.Proofs.YtplchdlcolepmaaW.PrintWords Go.Proofs.YtplchdlcolepmaaW.PrintLast
set_option linter.unusedVariables false
set_option linter.unusedSimpArgs false

/-- where a thing of one list stands in another one -/
def sg (m l : List It) (i : Nat) : Nat := (pl l (cl m i)).getD 0
structure Turn (m l : List It) : Prop where
  gm : Good m
  gl : Good l
  len : m.length = l.length
  at_ : ∀ i, i < m.length → sg m l i < l.length ∧ rdI l (sg m l i : Nat) = rdI m (i : Int)
  onto : ∀ j, j < l.length → ∃ i, i < m.length ∧ sg m l i = j
theorem Good.of_perm {m l : List It} (h : m.Perm l) (gl : Good l) : Good m :=
  ⟨by rw [h.length_eq]; exact gl.len, fun x hx => gl.ok x (h.mem_iff.mp hx), (h.map _).nodup_iff.mpr gl.nd⟩
theorem rdI_in {l : List It} {x : It} (h : x ∈ l) : ∃ i, i < l.length ∧ rdI l (i : Int) = x := by
  obtain ⟨i, hi, e⟩ := List.mem_iff_getElem.mp h
  exact ⟨i, hi, by rw [rdI_at hi, e]⟩
theorem turn_of_perm {m l : List It} (h : m.Perm l) (gl : Good l) : Turn m l := by
  have gm := Good.of_perm h gl
  have key : ∀ i, i < m.length → sg m l i < l.length ∧ rdI l (sg m l i : Nat) = rdI m (i : Int) := by
    intro i hi
    obtain ⟨j, hj, e⟩ := rdI_in (h.mem_iff.mp (rdI_mem m (i : Int) (by omega) (by omega)))
    have hs : sg m l i = j := by
      unfold sg
      have : cl m i = cl l j := by show (rdI m (i : Int)).f0 = (rdI l (j : Int)).f0; rw [e]
      rw [this, gl.pl_at hj]; rfl
    rw [hs]; exact ⟨hj, e⟩
  refine ⟨gm, gl, h.length_eq, key, ?_⟩
  intro j hj
  obtain ⟨i, hi, e⟩ := rdI_in (h.mem_iff.mpr (rdI_mem l (j : Int) (by omega) (by omega)))
  refine ⟨i, hi, ?_⟩
  have h1 := key i hi
  exact gl.inj h1.1 hj (by rw [h1.2, e])
theorem it_map {n : Nat} {f : Nat → Nat} {g g' : Nat → Option Nat} (hb : ∀ i j, g i = some j → j < n) (hg : ∀ i, i < n → g' (f i) = (g i).map f) : ∀ (a i : Nat), i < n → it g' a (f i) = (it g a i).map f := by
  intro a
  induction a with
  | zero => intro i _; rfl
  | succ a ih =>
    intro i hi
    rw [it_succ', it_succ', hg i hi]
    cases e : g i with
    | none => rfl
    | some j => exact ih j (hb i j e)
section
variable {m l : List It} (T : Turn m l)
include T
theorem Turn.inj {i k : Nat} (hi : i < m.length) (hk : k < m.length) (h : sg m l i = sg m l k) : i = k := by
  have h1 := (T.at_ i hi).2
  have h2 := (T.at_ k hk).2
  rw [h] at h1
  exact T.gm.inj hi hk (by rw [← h1, h2])
theorem Turn.plS {c : Int} {j : Nat} (h : pl m c = some j) : pl l c = some (sg m l j) := by
  obtain ⟨hj, e⟩ := pl_some h
  have := (T.at_ j hj)
  rw [← e, ← this.2]
  exact T.gl.pl_at this.1
theorem Turn.plN {c : Int} (h : pl m c = none) : pl l c = none := by
  cases e : pl l c with
  | none => rfl
  | some j =>
    obtain ⟨hj, e2⟩ := pl_some e
    obtain ⟨i, hi, hs⟩ := T.onto j hj
    exfalso
    refine G.pl_none h hi ?_
    rw [← (T.at_ i hi).2, hs, e2]
theorem Turn.nxS {i : Nat} (hi : i < m.length) : nx l (sg m l i) = (nx m i).map (sg m l) := by
  have ha := T.at_ i hi
  unfold G.nx
  rw [if_pos ha.1, if_pos hi, ha.2]
  cases e : G.pl m (rdI m (i : Int)).f2 with
  | none => rw [T.plN e]; rfl
  | some j =>
    rw [T.plS e]
    show (if sg m l j = sg m l i then none else some (sg m l j)) = Option.map (sg m l) (if j = i then none else some j)
    by_cases h : j = i
    · rw [if_pos h, if_pos (by rw [h])]; rfl
    · rw [if_neg h, if_neg (fun e' => h (T.inj (pl_some e).1 hi e'))]; rfl
theorem Turn.yg {i k : Nat} (hi : i < m.length) (hk : k < m.length) : Yg l (sg m l i) (sg m l k) = Yg m i k := by
  unfold Yg
  rw [(T.at_ i hi).2, (T.at_ k hk).2]
theorem Turn.ring {i : Nat} (hi : i < m.length) : InRing (G.nx l) (sg m l i) ↔ InRing (G.nx m) i := by
  have h := it_map (f := sg m l) (g' := G.nx l) (nx_lt m) (fun i hi => T.nxS hi)
  constructor
  · rintro ⟨a, ha, e⟩
    rw [h a i hi] at e
    obtain ⟨j, hj, e2⟩ := Option.map_eq_some_iff.mp e
    have hjl := it_lt (nx_lt m) hi hj
    obtain rfl := T.inj hjl hi e2
    exact ⟨a, ha, hj⟩
  · rintro ⟨a, ha, e⟩
    exact ⟨a, ha, by rw [h a i hi, e]; rfl⟩
theorem Turn.top {i : Nat} (hi : i < m.length) : Top (G.nx l) (Yg l) (sg m l i) ↔ Top (G.nx m) (Yg m) i := by
  have h := it_map (f := sg m l) (g' := G.nx l) (nx_lt m) (fun i hi => T.nxS hi)
  constructor
  · intro ht a k e
    have hk := it_lt (nx_lt m) hi e
    rw [← T.yg hk hi]
    exact ht a _ (by rw [h a i hi, e]; rfl)
  · intro ht a k e
    rw [h a i hi] at e
    obtain ⟨j, hj, rfl⟩ := Option.map_eq_some_iff.mp e
    rw [T.yg (it_lt (nx_lt m) hi hj) hi]
    exact ht a j hj
theorem Turn.gr {i : Nat} (hi : i < m.length) : Gr l (sg m l i) = (Gr m i).map (sg m l) := by
  have hs := (T.at_ i hi).1
  by_cases hc : Cut (G.nx m) (Yg m) i
  · rw [Gr_cut hi hc, Gr_cut hs ⟨(T.ring hi).mpr hc.1, (T.top hi).mpr hc.2⟩]; rfl
  · rw [Gr_not hi hc, Gr_not hs (fun h => hc ⟨(T.ring hi).mp h.1, (T.top hi).mp h.2⟩), T.nxS hi]
theorem Turn.bdFS : ∀ (f i : Nat), i < m.length → bdF l f (sg m l i) = bdF m f i := by
  intro f
  induction f with
  | zero => intro i hi; unfold G.bdF; rw [(T.at_ i hi).2]
  | succ f ih =>
    intro i hi
    unfold G.bdF
    rw [T.gr hi, (T.at_ i hi).2]
    cases e : Gr m i with
    | none => rfl
    | some j =>
      show max _ (G.bdF l f (sg m l j)) = max _ (G.bdF m f j)
      rw [ih j (Gr_lt i j e)]
theorem Turn.bd {i : Nat} (hi : i < m.length) : Bd l (sg m l i) = Bd m i := by unfold Bd; rw [← T.len]; exact T.bdFS _ i hi
theorem Turn.kLtS {i k : Nat} (hi : i < m.length) (hk : k < m.length) : kLt l (sg m l i) (sg m l k) ↔ kLt m i k := by
  unfold G.kLt cl
  rw [T.bd hi, T.bd hk, (T.at_ i hi).2, (T.at_ k hk).2]
theorem Turn.fr {dn : List Nat} (hd : ∀ j ∈ dn, j < m.length) {i : Nat} (hi : i < m.length) : Fr l (dn.map (sg m l)) (sg m l i) ↔ Fr m dn i := by
  unfold Fr
  rw [T.gr hi]
  cases e : Gr m i with
  | none => simp
  | some j =>
    have hj := Gr_lt i j e
    constructor
    · intro h j' hj'
      obtain rfl := Option.some.inj hj'
      obtain ⟨k, hk, hke⟩ := List.mem_map.mp (h _ rfl)
      obtain rfl := T.inj (hd k hk) hj hke
      exact hk
    · intro h j' hj'
      obtain rfl := Option.some.inj hj'
      exact List.mem_map.mpr ⟨j, h j rfl, rfl⟩
theorem Turn.ord : ∀ (s dn : List Nat), (∀ j ∈ dn, j < m.length) → (∀ j ∈ s, j < m.length) → IsOrd m dn s → IsOrd l (dn.map (sg m l)) (s.map (sg m l)) := by
  intro s
  induction s with
  | nil => intro dn _ _ _; trivial
  | cons x b ih =>
    intro dn hd hs h
    obtain ⟨h1, h2, h3⟩ := h
    have hx := hs x (by simp)
    refine ⟨(T.fr hd hx).mpr h1, ?_, ?_⟩
    · intro y hy hf
      obtain ⟨k, hk, rfl⟩ := List.mem_map.mp hy
      have hkl := hs k (by simp [hk])
      exact (T.kLtS hx hkl).mpr (h2 k hk ((T.fr hd hkl).mp hf))
    · have := ih (dn ++ [x]) (by intro j hj; rcases List.mem_append.mp hj with hj | hj; exact hd j hj; simp at hj; rw [hj]; exact hx) (fun j hj => hs j (by simp [hj])) h3
      simpa using this
theorem Turn.same {s t : List Nat} (hs : s.Perm (List.range m.length)) (ht : t.Perm (List.range l.length)) (h1 : IsOrd m [] s) (h2 : IsOrd l [] t) : s.map (cl m) = t.map (cl l) := by
  obtain ⟨hsl, hsn, hsb, hsa⟩ := perm_parts hs
  have h3 : IsOrd l [] (s.map (sg m l)) := T.ord s [] (by simp) hsb h1
  have hp : (s.map (sg m l)).Perm (List.range l.length) := by
    refine (List.perm_ext_iff_of_nodup ?_ List.nodup_range).mpr ?_
    · refine List.pairwise_map.mpr (hsn.imp_of_mem ?_)
      intro a b ha hb hne e
      exact hne (T.inj (hsb a ha) (hsb b hb) e)
    · intro j
      rw [List.mem_range, List.mem_map]
      constructor
      · rintro ⟨i, hi, rfl⟩; exact (T.at_ i (hsb i hi)).1
      · intro hj
        obtain ⟨i, hi, e⟩ := T.onto j hj
        obtain ⟨q, hq, hqe⟩ := hsa i hi
        exact ⟨i, hqe ▸ List.getElem_mem hq, e⟩
  have he := ord_uniq l _ _ [] (hp.trans ht.symm) h3 h2
  rw [← he, List.map_map]
  apply List.map_congr_left
  intro i hi
  show (rdI m (i : Int)).f0 = (rdI l ((sg m l i : Nat) : Int)).f0
  rw [(T.at_ i (hsb i hi)).2]
end
end Go.Proofs.Ytplchdlcolepmaa.G

namespace Go.Proofs.Ytplchdlcolepmaa.Pure
open Go.RowKit Go.Proofs.Ytplchdlcolepmaa.P Go.Proofs.Ytplchdlcolepmaa.G Go.Proofs.Ytplchdlcolepmaa.E Go.Proofs.Ytplchdlcolepmaa.O Go.Proofs.YtplchdlcolepmaaW.PrintWords Go.Proofs.YtplchdlcolepmaaW.PrintLast
set_option linter.unusedVariables false

theorem u64_len {n : Nat} (h : n ≤ 200) : IntKind.u64.wrap (n : Int) = n := by
  show (n : Int) % 18446744073709551616 = n
  omega
theorem turn_of (a : Int) (ha : (Lit.int .u64 a).wf = true) (n : Nat) (hn : 0 < n) (h : n ≤ 200) : ∃ k : Nat, k < n ∧ wrap64 (Int.tmod a (IntKind.u64.wrap (n : Int))) = (k : Int) := by
  have h0 : 0 ≤ a := by
    have h := ha
    simp [Lit.wf] at h
    have h2 : (IntKind.u64.min : Int) = 0 := by decide
    omega
  rw [u64_len h, Int.tmod_eq_emod_of_nonneg h0]
  have h1 := Int.emod_nonneg a (show (n : Int) ≠ 0 by omega)
  have h2 := Int.emod_lt_of_pos a (show (0 : Int) < n by omega)
  exact ⟨(a % (n : Int)).toNat, by omega, by rw [w64 (by omega) (by omega)]; omega⟩
theorem chk_same {m l : List It} (h : m.Perm l) : chkV m = chkV l := by
  by_cases g : G.Good l
  · rw [(chkV_zero l).2 g, (chkV_zero m).2 (G.Good.of_perm h g)]
  · have g' : ¬ G.Good m := fun g' => g (G.Good.of_perm h.symm g')
    have h1 : chkV l ≠ 0 := fun e => g ((chkV_zero l).1 e)
    have h2 : chkV m ≠ 0 := fun e => g' ((chkV_zero m).1 e)
    unfold chkV at *
    rw [h.length_eq] at *
    by_cases hc : l.length > 128
    · rw [if_pos hc, if_pos hc]
    · rw [if_neg hc] at *
      rw [if_neg hc] at *
      have h3 := chkL_bit l []
      have h4 := chkL_bit m []
      omega
theorem OrderTurns : casementlaw16_OrderTurns.Pure := by
  intro l a _ hg ha
  have hw : ∀ x ∈ l, wfIt x := fun x hx => wf_good (hg x hx)
  have skip : Ev (fun k => casementlaw16_OrderTurns.j0 k l a true) true := by
    refine Ev.step (fun _ => by rw [casementlaw16_OrderTurns.j0]) ?_
    exact Ev.pos rfl (Ev.bind awake_ev (Ev.fin rfl))
  refine Ev.rounds (g := fun k => casementlaw16_OrderTurns.f k l a) ?_
  unfold casementlaw16_OrderTurns.f
  by_cases hz : (l.length : Int) = 0
  · exact Ev.pos hz skip
  · refine Ev.neg hz ?_
    by_cases hb : (l.length : Int) > 200
    · rw [decide_eq_true hb]; exact skip
    · rw [decide_eq_false hb]
      obtain ⟨k, hk, hke⟩ := turn_of a ha l.length (by omega) (by omega)
      refine Ev.step (fun _ => by rw [casementlaw16_OrderTurns.j0]) ?_
      refine Ev.neg (by decide) (Ev.neg (by rw [u64_len (by omega)]; omega) (Ev.bind (Ev.con rfl) ?_))
      rw [hke]
      refine Ev.pos (by omega) (Ev.pos (by omega) (Ev.bind (Ev.con rfl) ?_))
      rw [Int.toNat_natCast, List.nil_append]
      refine Ev.pos (by simp; omega) (Ev.bind (Ev.con rfl) (Ev.bind (Ev.con rfl) (Ev.pos (by simp; omega) ?_)))
      have hp : (l.drop k ++ l.take k).Perm l := by
        have := List.perm_append_comm (l₁ := l.drop k) (l₂ := l.take k)
        rwa [List.take_append_drop] at this
      have hwm : ∀ x ∈ l.drop k ++ l.take k, wfIt x := fun x hx => hw x (hp.mem_iff.mp hx)
      have hcs := chk_same hp
      rcases order_f hw with ⟨gl, s, h1, h2, h3⟩ | ⟨hn, h1⟩
      · rcases order_f hwm with ⟨gm, t, g1, g2, g3⟩ | ⟨gn, g1⟩
        · have hsame := (turn_of_perm hp gl).same g2 h2 g3 h3
          refine Ev.bind (Ev.con h1) (Ev.bind (Ev.con g1) (Ev.pos rfl ?_))
          show Ev (fun q => (casementref03_Ints.f q (s.map (cl l)) (t.map (cl _))).bind _) true
          rw [hsame]
          obtain ⟨hsl, _, _, _⟩ := perm_parts h2
          exact Ev.bind (ints_same _ (by rw [List.length_map]; omega)) (Ev.pos rfl (Ev.bind awake_ev (Ev.fin rfl)))
        · exact absurd (G.Good.of_perm hp gl) gn
      · rcases order_f hwm with ⟨gm, t, g1, g2, g3⟩ | ⟨gn, g1⟩
        · exact absurd (G.Good.of_perm hp.symm gm) hn
        · refine Ev.bind (Ev.con h1) (Ev.bind (Ev.con g1) (Ev.pos hcs.symm ?_))
          exact Ev.bind (ints_same _ (by simp)) (Ev.pos rfl (Ev.bind awake_ev (Ev.fin rfl)))
end Go.Proofs.Ytplchdlcolepmaa.Pure
