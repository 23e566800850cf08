/-
  The reference's Tokens tells the pieces of a text as the plain lists do. Conditions: the text's size.
-/
import Derived.Test.YthlncjiapjahaaaLexSpec
namespace Go.Proofs.Ythlncjiapjahaaa.L
open Go.RowKit Go.Proofs.Ythlncjiapjahaaa.P Go.Proofs.Ythlncjiapjahaaa.E Go.Proofs.YthlncjiapjahaaaW.PrintWords
set_option linter.unusedVariables false
set_option linter.unusedSimpArgs false

theorem app_ext {s : ByteArray} {acc l : List UInt8} {u : UInt8} {i : Nat} (h : s.data.toList.drop i = u :: l) : (⟨acc.toArray⟩ : ByteArray) ++ s.extract i (i + 1) = ⟨(acc ++ [u]).toArray⟩ := by
  rw [ext_take, h]
  apply ByteArray.ext
  rw [ByteArray.data_append]
  have e1 : i + 1 - i = 1 := by omega
  rw [e1]; simp
theorem size_mk (acc : List UInt8) : (⟨acc.toArray⟩ : ByteArray).size = acc.length := by simp [ByteArray.size]
theorem size_ext1 {s : ByteArray} {i : Nat} (h : i < s.size) : (s.extract i (i + 1)).size = 1 := by rw [ByteArray.size_extract]; omega

def refq (at0 : Nat) (q : List UInt8 × Int × Int) : ByteArray × Int × Int × Int :=
  if q.2.2 = 0 then (⟨q.1.toArray⟩, (at0 : Int) + q.2.1, 0, 0) else (⟨#[]⟩, 0, q.2.2, (at0 : Int) + q.2.1)

theorem refq_ok {a : Nat} {t : List UInt8} {n : Int} : refq a (t, n, 0) = (⟨t.toArray⟩, (a : Int) + n, 0, 0) := rfl
theorem refq_bad {a : Nat} {t : List UInt8} {n e : Int} (h : e ≠ 0) : refq a (t, n, e) = (⟨#[]⟩, 0, e, (a : Int) + n) := if_neg h
theorem refq_at {a i : Nat} {t : List UInt8} {e : Int} (h : e ≠ 0) (ha : a ≤ i) : ((⟨#[]⟩ : ByteArray), (0 : Int), e, (i : Int)) = refq a (t, ((i - a : Nat) : Int), e) := by
  rw [refq_bad h]
  have : (a : Int) + ((i - a : Nat) : Int) = i := by omega
  rw [this]
theorem u8_lt {u : UInt8} {n : Nat} (hn : n < 256) : ((u.toNat : Int) < (n : Int)) ↔ u < UInt8.ofNat n := by
  rw [UInt8.lt_iff_toNat_lt]
  have : (UInt8.ofNat n).toNat = n := by simp; omega
  rw [this]; omega
theorem u8_eq {u v : UInt8} : ((u.toNat : Int) = (v.toNat : Int)) ↔ u = v := by
  constructor
  · intro h; exact UInt8.toNat_inj.mp (by omega)
  · intro h; rw [h]
theorem seen_iff : ∀ u : UInt8, (u < 32 ∨ 127 ≤ u) ↔ ((u.toNat : Int) < 32 ∨ (u.toNat : Int) > 126) := all8 (by decide +kernel)

set_option maxHeartbeats 100000 in
theorem rq (s : ByteArray) (hs : s.size ≤ 65536) (at0 : Nat) : ∀ (d i : Nat) (acc : List UInt8), s.size - i ≤ d → at0 < i → i ≤ s.size → acc.length ≤ i →
    Ev (fun r => casementref18_quoted.l0 r s (at0 : Int) ⟨acc.toArray⟩ (i : Int)) (refq at0 (quotedL (s.data.toList.drop i) acc (i - at0))) := by
  intro d
  induction d using Nat.strongRecOn with
  | _ d ih =>
  intro i acc hd ha hi hl
  refine Ev.step (fun _ => by rw [casementref18_quoted.l0]) ?_
  cases e : s.data.toList.drop i with
  | nil =>
    have hn := drop_nil e
    refine Ev.neg (by omega) ?_
    refine Ev.step (fun _ => by rw [casementref18_quoted.j1]) ?_
    refine Ev.neg (by decide) (Ev.pos (by omega) (Ev.fin ?_))
    simp [quotedL, refq]
  | cons u l =>
    obtain ⟨hlt, hb, hdl⟩ := bt_cons e
    refine Ev.pos (by omega) (Ev.pos (by omega) ?_)
    rw [hb]
    refine Ev.step (fun _ => by rw [casementref18_quoted.j1]) ?_
    rw [hb]
    have hw1 : wrap64 ((i : Int) + 1) = ((i + 1 : Nat) : Int) := wadd1 (by omega)
    rw [hw1]
    by_cases h1 : u = 34
    · subst h1
      refine Ev.neg (by decide) (Ev.neg (by omega) (Ev.fin ?_))
      rw [quotedL_quote, refq_ok]
      have : (at0 : Int) + (((i - at0 : Nat) : Int) + 1) = ((i + 1 : Nat) : Int) := by omega
      rw [this]
    · have n1 : ((u.toNat : Int) != 34) = true := by rw [bne_iff_ne]; exact fun h => h1 ((u8_eq (v := 34)).mp h)
      refine Ev.pos n1 (Ev.pos (by omega) (Ev.pos (by omega) ?_))
      by_cases h2 : u < 32 ∨ 127 ≤ u
      · rw [quotedL_bad h2]
        have hfin : ∀ K : Nat → Option (ByteArray × Int × Int × Int), Ev (fun r => if (true : Bool) = true then some ((⟨#[]⟩ : ByteArray), (0 : Int), (180 : Int), (i : Int)) else K r) (refq at0 ([], ((i - at0 : Nat) : Int), 180)) := by
          intro K
          exact Ev.pos rfl (Ev.fin (refq_at (by decide) (by omega)))
        by_cases h3 : (u.toNat : Int) < 32
        · refine Ev.pos h3 (Ev.step (fun _ => by rw [casementref18_quoted.j2]) ?_)
          exact hfin _
        · refine Ev.neg h3 (Ev.step (fun _ => by rw [casementref18_quoted.j2]) ?_)
          have h4 : (u.toNat : Int) > 126 := by rcases (seen_iff u).mp h2 with h | h <;> omega
          rw [decide_eq_true h4]
          exact hfin _
      · have h3 : ¬ ((u.toNat : Int) < 32) ∧ ¬ ((u.toNat : Int) > 126) := ⟨fun h => h2 ((seen_iff u).mpr (.inl h)), fun h => h2 ((seen_iff u).mpr (.inr h))⟩
        refine Ev.neg h3.1 (Ev.step (fun _ => by rw [casementref18_quoted.j2]) ?_)
        rw [decide_eq_false h3.2, hb, hw1]
        refine Ev.neg (by decide) (Ev.pos (by omega) (Ev.pos (by omega) ?_))
        by_cases h4 : u = 92
        · subst h4
          refine Ev.pos rfl ?_
          have hd2 : s.data.toList.drop (i + 1) = l := hdl
          cases l with
          | nil =>
            have hn := drop_nil hd2
            refine Ev.pos (by omega) (Ev.fin ?_)
            rw [quotedL_end]
            exact refq_at (by decide) (by omega)
          | cons d' l' =>
            obtain ⟨hlt2, hb2, hdl2⟩ := bt_cons hd2
            refine Ev.neg (by omega) (Ev.pos (by omega) (Ev.pos (by omega) ?_))
            have hw2 : wrap64 (((i + 1 : Nat) : Int) + 1) = ((i + 2 : Nat) : Int) := wadd1 (by omega)
            rw [hb2, hw2]
            have hz : ((i + 1 : Nat) : Int).toNat = i + 1 ∧ ((i + 2 : Nat) : Int).toNat = i + 1 + 1 := ⟨Int.toNat_natCast _, Int.toNat_natCast _⟩
            rw [hz.1, hz.2, size_mk acc, size_ext1 hlt2, app_ext hd2]
            clear hz h3 hw2 hw1 hb hb2
            have hgo : ∀ h : (d' = 34 ∨ d' = 92), Ev (fun r => casementref18_quoted.l0 r s (at0 : Int) ⟨(acc ++ [d']).toArray⟩ ((i + 2 : Nat) : Int)) (refq at0 (quotedL (92 :: d' :: l') acc (i - at0))) := by
              intro h
              rw [quotedL_esc h]
              have e1 : i - at0 + 2 = i + 2 - at0 := by omega
              have hdd : s.data.toList.drop (i + 2) = l' := hdl2
              have h8 := ih (s.size - (i + 2)) (by omega) (i + 2) (acc ++ [d']) (by omega) (by omega) (by omega) (by rw [List.length_append]; simp only [List.length_cons, List.length_nil]; omega)
              rw [hdd] at h8
              rw [e1]
              exact h8
            by_cases h5 : d' = 34
            · refine Ev.pos (by subst h5; rfl) (Ev.pos (by omega) (Ev.pos (by omega) (Ev.pos (by omega) ?_)))
              exact hgo (.inl h5)
            · refine Ev.neg (fun h => h5 ((u8_eq (v := 34)).mp h)) ?_
              by_cases h6 : d' = 92
              · refine Ev.pos (by subst h6; rfl) (Ev.pos (by omega) (Ev.pos (by omega) (Ev.pos (by omega) ?_)))
                exact hgo (.inr h6)
              · refine Ev.neg (fun h => h6 ((u8_eq (v := 92)).mp h)) (Ev.fin ?_)
                rw [quotedL_noesc (fun h => h.elim h5 h6)]
                exact refq_at (by decide) (by omega)
        · refine Ev.neg (fun h => h4 ((u8_eq (v := 92)).mp h)) ?_
          have hz : (i : Int).toNat = i ∧ ((i + 1 : Nat) : Int).toNat = i + 1 := ⟨by simp, by simp⟩
          rw [hz.1, hz.2, size_mk acc, size_ext1 hlt, app_ext e]
          clear hz h3 hw1 hb
          refine Ev.pos (by omega) (Ev.pos (by omega) (Ev.pos (by omega) ?_))
          rw [quotedL_other h1 h2 h4]
          have e1 : i - at0 + 1 = i + 1 - at0 := by omega
          rw [e1, ← hdl]
          exact ih (s.size - (i + 1)) (by omega) (i + 1) _ (by omega) (by omega) (by omega) (by simp; omega)

theorem rq_f (s : ByteArray) (hs : s.size ≤ 65536) (k : Nat) (u : UInt8) (l : List UInt8) (e : s.data.toList.drop k = u :: l) :
    Ev (fun r => casementref18_quoted.f r s (k : Int)) (refq k (quotedL l [] 1)) := by
  obtain ⟨hlt, hb, hdl⟩ := bt_cons e
  unfold casementref18_quoted.f
  have hw1 : wrap64 ((k : Int) + 1) = ((k + 1 : Nat) : Int) := wadd1 (by omega)
  rw [hw1]
  have := rq s hs k s.size (k + 1) [] (by omega) (by omega) (by omega) (by simp)
  rw [hdl] at this
  have e1 : k + 1 - k = 1 := by omega
  rw [e1] at this
  exact this

end Go.Proofs.Ythlncjiapjahaaa.L
