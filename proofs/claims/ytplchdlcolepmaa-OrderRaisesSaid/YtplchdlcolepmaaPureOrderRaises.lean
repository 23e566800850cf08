/-
  OrderRaises: for every list of things, and each of them, the law's function answers true. No conditions beyond the statement's own.
-/
import Derived.Test.YtplchdlcolepmaaOAt
import Derived.Test.YtplchdlcolepmaaQOrderRaises
namespace Go.Proofs.Ytplchdlcolepmaa.Pure
open Go.RowKit Go.Proofs.Ytplchdlcolepmaa.P Go.Proofs.Ytplchdlcolepmaa.G Go.Proofs.Ytplchdlcolepmaa.E Go.Proofs.Ytplchdlcolepmaa.O Go.Proofs.YtplchdlcolepmaaW.PrintWords Go.Proofs.YtplchdlcolepmaaW.PrintLast
set_option linter.unusedVariables false

/-- what stands above the one that was raised last, in its band, is its own, or theirs -/
theorem above (l : List It) (gd : G.Good l) (s : List Nat) (hp : s.Perm (List.range l.length)) (ho : IsOrd l [] s) {pk : Nat} (hpk : pk < s.length)
    (hr : ∀ i, i < l.length → i ≠ s[pk] → (rdI l (i : Int)).f4 < (rdI l ((s[pk] : Nat) : Int)).f4) {m : Nat} (hm : m < s.length) (hpm : pk < m) (hb : Bd l s[m] ≤ Bd l s[pk]) : ∃ a, it (Gr l) a s[m] = some s[pk] := by
  obtain ⟨hsl, hnd, hs, hall⟩ := perm_parts hp
  obtain ⟨f1, f2⟩ := ord_at l s [] ho pk hpk
  have key : ∀ (f q : Nat) (hq : q < s.length), pk < q → it (Gr l) f s[q] = none → Bd l s[q] ≤ Bd l s[pk] → ∃ a, it (Gr l) a s[q] = some s[pk] := by
    intro f
    induction f with
    | zero => intro q hq _ h _; rw [it_zero] at h; cases h
    | succ f ih =>
      intro q hq hpq h hbq
      rw [it_succ'] at h
      have hql := hs _ (List.getElem_mem hq)
      by_cases hf : Fr l ([] ++ s.take pk) s[q]
      · exfalso
        have h3 := f2 s[q] (by rw [List.mem_drop_iff_getElem]; exact ⟨q - (pk + 1), by omega, by congr 1; omega⟩) hf
        have hne : s[q] ≠ s[pk] := fun e => by have := (List.getElem_inj hnd).mp e; omega
        have h4 := hr s[q] hql hne
        unfold kLt at h3
        omega
      · unfold Fr at hf
        cases e : Gr l s[q] with
        | none => exact absurd (fun j hj => by rw [e] at hj; cases hj) hf
        | some j =>
          rw [e, Option.bind_some] at h
          obtain ⟨p, hpq2, hpe⟩ := ord_owner ho hq e
          have hjt : ¬ j ∈ [] ++ s.take pk := fun hj => hf (fun j' hj' => by rw [e] at hj'; obtain rfl := Option.some.inj hj'; exact hj)
          have hpk2 : ¬ p < pk := fun hlt => hjt (by rw [List.nil_append, List.mem_take_iff_getElem]; exact ⟨p, by omega, hpe⟩)
          have hbj := gd.Bd_own hql e
          rcases Nat.eq_or_lt_of_le (Nat.not_lt.mp hpk2) with hpp | hpp
          · exact ⟨1, by rw [it_one, e, ← hpe]; congr 2; exact hpp.symm⟩
          · obtain ⟨a, ha⟩ := ih p (by omega) hpp (by rw [hpe]; exact h) (by rw [hpe]; omega)
            exact ⟨a + 1, by rw [it_succ', e, Option.bind_some, ← hpe]; exact ha⟩
  exact key l.length m hm hpm (gd.ends (hs _ (List.getElem_mem hm))) hb

theorem raise_up (l : List It) (gd : G.Good l) (s : List Nat) (kk : Nat) (hk : kk < l.length) (i : Nat) (hnext : Ev (fun q => casementlaw16_OrderRaises.l1 q (kk : Int) l (s.map (cl l)) (ownS l) (bdS l) (wrap64 ((i : Int) + 1))) true) :
    ∀ (f a j n : Nat), j < l.length → it (Gr l) f j = none → it (Gr l) a j = some kk → n + f ≤ l.length → Ev (fun q => casementlaw16_OrderRaises.l2 q (kk : Int) l (s.map (cl l)) (ownS l) (bdS l) (i : Int) (j : Int) (n : Int)) true := by
  have hl := gd.len
  have hlo := ownS_len l
  intro f
  induction f with
  | zero => intro a j n _ h _ _; rw [it_zero] at h; cases h
  | succ f ih =>
    intro a j n hj h ha hn
    rw [it_succ'] at h
    refine Ev.step (fun _ => by rw [casementlaw16_OrderRaises.l2]) ?_
    refine Ev.pos (by omega) (Ev.pos (by omega) (Ev.pos (by omega) ?_))
    by_cases hjk : j = kk
    · subst hjk
      cases e : Gr l j with
      | none => exact Ev.pos (ownS_none hj e) (Ev.pos rfl hnext)
      | some z => exact Ev.neg (gd.ownS_some hj e).2.2.1 (Ev.pos rfl hnext)
    · cases a with
      | zero => rw [it_zero] at ha; exact absurd (Option.some.inj ha) hjk
      | succ a =>
        rw [it_succ'] at ha
        cases e : Gr l j with
        | none => rw [e] at ha; cases ha
        | some z =>
          rw [e, Option.bind_some] at ha h
          have hz := Gr_lt j z e
          obtain ⟨q1, q2, q3, q4⟩ := gd.ownS_some hj e
          refine Ev.neg q3 (Ev.neg (by omega) ?_)
          rw [q2]
          refine Ev.bind (gd.place hz) ?_
          rw [wadd1 (by omega)]
          exact ih a z (n + 1) hz h ha (by omega)
theorem raise_go (l : List It) (gd : G.Good l) (s : List Nat) (hp : s.Perm (List.range l.length)) (ho : IsOrd l [] s) {pk : Nat} (hpk : pk < s.length)
    (hr : ∀ i, i < l.length → i ≠ s[pk] → (rdI l (i : Int)).f4 < (rdI l ((s[pk] : Nat) : Int)).f4) : ∀ (d m : Nat), m + d = s.length → pk < m → Ev (fun q => casementlaw16_OrderRaises.l1 q ((s[pk] : Nat) : Int) l (s.map (cl l)) (ownS l) (bdS l) (m : Int)) true := by
  obtain ⟨hsl, hnd, hs, hall⟩ := perm_parts hp
  have hl := gd.len
  have hlb := bdS_len l
  have hla : (s.map (cl l)).length = s.length := by simp
  have hkl := hs _ (List.getElem_mem hpk)
  intro d
  induction d with
  | zero =>
    intro m hm _
    refine Ev.step (fun _ => by rw [casementlaw16_OrderRaises.l1]) ?_
    exact Ev.neg (by omega) (Ev.bind awake_ev (Ev.fin rfl))
  | succ d ih =>
    intro m hm hpm
    have hms : m < s.length := by omega
    have hx := hs _ (List.getElem_mem hms)
    have hnext : Ev (fun q => casementlaw16_OrderRaises.l1 q ((s[pk] : Nat) : Int) l (s.map (cl l)) (ownS l) (bdS l) (wrap64 ((m : Int) + 1))) true := by
      rw [wadd1 (by omega)]
      exact ih (m + 1) (by omega) (by omega)
    refine Ev.step (fun _ => by rw [casementlaw16_OrderRaises.l1]) ?_
    refine Ev.pos (by omega) (Ev.pos (by omega) ?_)
    rw [rd_cl hms]
    refine Ev.bind (gd.place hx) (Ev.pos (by omega) (Ev.pos (by omega) (Ev.pos (by omega) (Ev.pos (by omega) ?_))))
    rw [rd_bdS hx, rd_bdS hkl]
    by_cases hb : Bd l s[m] > Bd l s[pk]
    · exact Ev.pos hb hnext
    · obtain ⟨a, ha⟩ := above l gd s hp ho hpk hr hms hpm (by omega)
      exact Ev.neg hb (raise_up l gd s s[pk] hkl m hnext l.length a s[m] 0 hx (gd.ends hx) ha (by omega))

def raised (l : List It) (k : Nat) : List It := l.set k ⟨(rdI l (k : Int)).f0, (rdI l (k : Int)).f1, (rdI l (k : Int)).f2, (rdI l (k : Int)).f3, 1099511627777, (rdI l (k : Int)).f5⟩
theorem raised_len (l : List It) (k : Nat) : (raised l k).length = l.length := by unfold raised; simp
theorem raised_same {l : List It} {k : Nat} (h : k < l.length) : rdI (raised l k) (k : Int) = ⟨(rdI l (k : Int)).f0, (rdI l (k : Int)).f1, (rdI l (k : Int)).f2, (rdI l (k : Int)).f3, 1099511627777, (rdI l (k : Int)).f5⟩ := by
  rw [rdI_at (by rw [raised_len]; exact h)]
  unfold raised; simp
theorem raised_other {l : List It} {k i : Nat} (hi : i < l.length) (h : i ≠ k) : rdI (raised l k) (i : Int) = rdI l (i : Int) := by
  rw [rdI_at (by rw [raised_len]; exact hi), rdI_at hi]
  unfold raised
  rw [List.getElem_set_ne (by omega)]
theorem raised_good {l : List It} (gd : G.Good l) {k : Nat} (h : k < l.length) : G.Good (raised l k) := by
  have hk := gd.okAt h
  refine ⟨by rw [raised_len]; exact gd.len, ?_, ?_⟩
  · intro x hx
    unfold raised at hx
    rcases List.mem_or_eq_of_mem_set hx with hx | hx
    · exact gd.ok x hx
    · subst hx
      obtain ⟨a, b, c, d, e⟩ := hk
      exact ⟨a, b, c, by show (0 : Int) ≤ 1099511627777; decide, e⟩
  · have he : (raised l k).map (·.f0) = l.map (·.f0) := by
      unfold raised
      rw [List.map_set]
      have : (rdI l (k : Int)).f0 = (l.map (·.f0))[k]'(by simpa using h) := by rw [rdI_at h]; simp
      show (l.map (·.f0)).set k (rdI l (k : Int)).f0 = _
      rw [this, List.set_getElem_self]
    rw [he]; exact gd.nd
theorem raised_wf {l : List It} (hw : ∀ x ∈ l, wfIt x) {k : Nat} (h : k < l.length) : ∀ x ∈ raised l k, wfIt x := by
  intro x hx
  unfold raised at hx
  rcases List.mem_or_eq_of_mem_set hx with hx | hx
  · exact hw x hx
  · subst hx
    have := hw _ (rdI_mem l (k : Int) (by omega) (by omega))
    obtain ⟨a, b, c, d, e⟩ := this
    exact ⟨a, b, c, M.i64_of (by show (_ : Int) ≤ 1099511627777; decide) (by show (1099511627777 : Int) ≤ _; decide), e⟩
theorem raise_all (l : List It) (hw : ∀ x ∈ l, wfIt x) (gd : G.Good l) (k : Nat) (hk : k < l.length) : ∀ (d m : Nat), m + d = l.length → (∀ i, i < m → (rdI l (i : Int)).f4 ≤ 1099511627776) → Ev (fun q => casementlaw16_OrderRaises.l0 q (k : Int) l (m : Int)) true := by
  have hl := gd.len
  intro d
  induction d with
  | zero =>
    intro m hm hle
    have hmn : m = l.length := by omega
    refine Ev.step (fun _ => by rw [casementlaw16_OrderRaises.l0]) ?_
    refine Ev.neg (by omega) (Ev.pos (by omega) (Ev.pos (by omega) (Ev.bind (Ev.con rfl) ?_)))
    rw [Int.toNat_natCast]
    have hr0 : l.set k (⟨(rd_T38 l (k : Int)).f0, (rd_T38 l (k : Int)).f1, (rd_T38 l (k : Int)).f2, (rd_T38 l (k : Int)).f3, 1099511627777, (rd_T38 l (k : Int)).f5⟩ : It) = raised l k := rfl
    rw [hr0]
    have gr := raised_good gd hk
    have hwr := raised_wf hw hk
    have hrl := raised_len l k
    rcases order_f hwr with ⟨_, s, h1, h2, h3⟩ | ⟨hn, h1⟩
    · obtain ⟨hsl, hnd, hs, hall⟩ := perm_parts h2
      refine Ev.bind (Ev.con h1) (Ev.bind (Ev.con (owners_f hwr)) (Ev.bind (Ev.con (bands_f hwr)) (Ev.pos rfl ?_)))
      unfold ownV bdV
      rw [if_pos gr, if_pos gr]
      have hlo := ownS_len (raised l k)
      have hlb := bdS_len (raised l k)
      refine Ev.pos (by rw [hlo, hrl]) ?_
      refine Ev.step (fun _ => by rw [casementlaw16_OrderRaises.j2]) ?_
      refine Ev.neg (by rw [hlb, hrl]; simp) (Ev.pos (by omega) (Ev.pos (by omega) ?_))
      obtain ⟨pk, hpk, hpe⟩ := hall k (by omega)
      have hwh := gr.where_ hs hnd (by omega) hpk
      rw [hpe] at hwh
      refine Ev.bind hwh ?_
      rw [wadd1 (by omega)]
      have := raise_go (raised l k) gr s h2 h3 hpk (fun i hi hne => by
        rw [hpe] at hne ⊢
        rw [raised_other (by omega) hne, raised_same hk]
        have := hle i (by omega)
        show _ < (1099511627777 : Int)
        omega) (s.length - (pk + 1)) (pk + 1) (by omega) (by omega)
      rw [hpe] at this
      exact this
    · exact absurd gr hn
  | succ d ih =>
    intro m hm hle
    refine Ev.step (fun _ => by rw [casementlaw16_OrderRaises.l0]) ?_
    refine Ev.pos (by omega) (Ev.pos (by omega) ?_)
    by_cases hgt : (rdI l (m : Int)).f4 > 1099511627776
    · exact Ev.pos hgt (Ev.bind awake_ev (Ev.fin rfl))
    · refine Ev.neg hgt ?_
      rw [wadd1 (by omega)]
      refine ih (m + 1) (by omega) (fun i hi => ?_)
      rcases Nat.lt_or_ge i m with h | h
      · exact hle i h
      · obtain rfl : i = m := by omega
        omega
theorem u64_len {n : Nat} (h : n ≤ 200) : IntKind.u64.wrap (n : Int) = n := by
  show (n : Int) % 18446744073709551616 = n
  omega
theorem turn_of (a : Int) (ha : (Lit.int .u64 a).wf = true) (n : Nat) (hn : 0 < n) (h : n ≤ 200) : ∃ k : Nat, k < n ∧ wrap64 (Int.tmod a (IntKind.u64.wrap (n : Int))) = (k : Int) := by
  have h0 : 0 ≤ a := by
    have h := ha
    simp [Lit.wf] at h
    have h2 : (IntKind.u64.min : Int) = 0 := by decide
    omega
  rw [u64_len h, Int.tmod_eq_emod_of_nonneg h0]
  have h1 := Int.emod_nonneg a (show (n : Int) ≠ 0 by omega)
  have h2 := Int.emod_lt_of_pos a (show (0 : Int) < n by omega)
  exact ⟨(a % (n : Int)).toNat, by omega, by rw [w64 (by omega) (by omega)]; omega⟩
theorem OrderRaises : casementlaw16_OrderRaises.Pure := by
  intro l a _ hg ha
  have hw : ∀ x ∈ l, wfIt x := fun x hx => wf_good (hg x hx)
  have skip : Ev (fun k => casementlaw16_OrderRaises.j0 k l a true) true := by
    refine Ev.step (fun _ => by rw [casementlaw16_OrderRaises.j0]) ?_
    exact Ev.pos rfl (Ev.bind awake_ev (Ev.fin rfl))
  refine Ev.rounds (g := fun k => casementlaw16_OrderRaises.f k l a) ?_
  unfold casementlaw16_OrderRaises.f
  by_cases hz : (l.length : Int) = 0
  · exact Ev.pos hz skip
  · refine Ev.neg hz (Ev.bind (Ev.con (check_f hw)) ?_)
    by_cases h : G.Good l
    · have hc := (chkV_zero l).2 h
      rw [hc]
      have hl := h.len
      obtain ⟨k, hk, hke⟩ := turn_of a ha l.length (by omega) (by omega)
      refine Ev.step (fun _ => by rw [casementlaw16_OrderRaises.j0]) ?_
      refine Ev.neg (by decide) (Ev.neg (by rw [u64_len (by omega)]; omega) (Ev.bind (Ev.con rfl) (Ev.pos (by simp; omega) ?_)))
      rw [List.nil_append, hke]
      exact raise_all l hw h k hk l.length 0 (by omega) (fun i hi => by omega)
    · have hc : (chkV l != 0) = true := by rw [bne_iff_ne]; exact fun e => h ((chkV_zero l).1 e)
      rw [hc]
      exact skip
end Go.Proofs.Ytplchdlcolepmaa.Pure
