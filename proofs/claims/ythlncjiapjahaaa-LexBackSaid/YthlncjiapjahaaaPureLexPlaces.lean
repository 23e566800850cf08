/-
  LexPlaces: for every text the law's function answers true: pieces stand in the text where they say, one behind the other, and a fault's place lies in the text. No conditions beyond the statement's own.
-/
import Derived.Test.YthlncjiapjahaaaLexMore
import Derived.Test.YthlncjiapjahaaaPx5
import Derived.Laws.Strings
namespace Go.Proofs.Ythlncjiapjahaaa.Pure
open Go.RowKit Go.Proofs.Ythlncjiapjahaaa.P Go.Proofs.Ythlncjiapjahaaa.L Go.Proofs.Ythlncjiapjahaaa.E Go.Proofs.YthlncjiapjahaaaW.PrintWords Go.Proofs.YthlncjiapjahaaaW.PrintLast
set_option linter.unusedVariables false
set_option linter.unusedSimpArgs false

theorem rd_drop {L m : List S33} {x : S33} {k : Nat} (h : L.drop k = x :: m) : rd_T33 L (k : Int) = x ∧ k < L.length ∧ L.drop (k + 1) = m ∧ L.length = k + 1 + m.length := by
  have hlt : k < L.length := by
    rcases Nat.lt_or_ge k L.length with h' | h'
    · exact h'
    · rw [List.drop_of_length_le h'] at h; simp at h
  have hl := congrArg List.length h
  rw [List.length_drop, List.length_cons] at hl
  rw [List.drop_eq_getElem_cons hlt] at h
  injection h with h1 h2
  refine ⟨?_, hlt, h2, by omega⟩
  unfold rd_T33
  rw [Int.toNat_natCast, List.getD_eq_getElem?_getD, List.getElem?_eq_getElem hlt, h1]; rfl

theorem piece_at (s : ByteArray) (p : Nat) (text : List UInt8) (K : Nat → Option Bool) (hs : s.size ≤ 65536) (g1 : p + text.length ≤ s.size) (g2 : (s.data.toList.drop p).take text.length = text) (hK : Ev K true) :
    Ev (fun r => if (text.length : Int) > wrap64 ((s.size : Int) - (p : Int)) then some false else if 0 ≤ (p : Int) then if (p : Int) ≤ wrap64 ((p : Int) + (text.length : Int)) then if wrap64 ((p : Int) + (text.length : Int)) ≤ (s.size : Int) then if (s.extract (p : Int).toNat (wrap64 ((p : Int) + (text.length : Int))).toNat).toList = (⟨text.toArray⟩ : ByteArray).toList then K r else some false else none else none else none) true := by
  have hw4 : wrap64 ((s.size : Int) - (p : Int)) = (s.size : Int) - (p : Int) := w64 (by omega) (by omega)
  have hw5 : wrap64 ((p : Int) + (text.length : Int)) = ((p + text.length : Nat) : Int) := wadd (by omega)
  rw [hw4, hw5]
  clear hw4 hw5
  refine Ev.neg (by omega) (Ev.pos (by omega) (Ev.pos (by omega) (Ev.pos (by omega) (Ev.pos ?_ hK))))
  rw [Int.toNat_natCast, Int.toNat_natCast, ext_take]
  have e3 : p + text.length - p = text.length := by omega
  rw [e3, g2]

theorem places_l0 (s : ByteArray) (hs : s.size ≤ 65536) (L : List S33) (hL : L.length < 4611686018427387904) : ∀ (us : List T) (k a : Nat), L.drop k = us.map mk ++ [⟨4, ⟨#[]⟩, (s.size : Int)⟩] → Chain s a us →
    Ev (fun r => casementlaw18_LexPlaces.l0 r s L 0 (a : Int) (k : Int)) true := by
  intro us
  induction us with
  | nil =>
    intro k a h hc
    obtain ⟨hr, hk, hd, hl⟩ := rd_drop h
    simp only [List.length_nil, Nat.add_zero] at hl
    have ha : a ≤ s.size := hc
    refine Ev.step (fun _ => by rw [casementlaw18_LexPlaces.l0]) ?_
    rw [hr]
    have hw : wrap64 ((L.length : Int) - 1) = (k : Int) := by rw [w64] <;> omega
    rw [hw]
    refine Ev.pos (by omega) (Ev.pos (by omega) (Ev.neg (by simp only; omega) (Ev.neg (by simp only; omega) ?_)))
    refine Ev.step (fun _ => by rw [casementlaw18_LexPlaces.j1]) ?_
    refine Ev.neg (by simp) (Ev.neg (by simp) (Ev.neg (by simp) ?_))
    refine Ev.step (fun _ => by rw [casementlaw18_LexPlaces.l0]) ?_
    have hw2 : wrap64 ((k : Int) + 1) = ((k + 1 : Nat) : Int) := wadd1 (by omega)
    rw [hw2]
    exact Ev.neg (by omega) (Ev.pos rfl (Ev.pos (by omega) (Ev.bind awake_ev (Ev.fin rfl))))
  | cons t us ih =>
    intro k a h hc
    obtain ⟨p, h1, h2, h3, h4, h5, h6, h7⟩ := hc
    obtain ⟨hr, hk, hd, hl⟩ := rd_drop h
    have hl2 : L.length = k + 1 + (us.length + 1) := by rw [hl]; simp
    refine Ev.step (fun _ => by rw [casementlaw18_LexPlaces.l0]) ?_
    rw [hr]
    have e0 : (mk t).f0 = t.1 := rfl
    have e1 : (mk t).f1 = ⟨t.2.1.toArray⟩ := rfl
    have e2 : (mk t).f2 = (p : Int) := h1
    rw [e0, e1, e2]
    have hw : wrap64 ((L.length : Int) - 1) = ((k + 1 + us.length : Nat) : Int) := by rw [w64] <;> omega
    rw [hw]
    have hb : ((t.1 == 4) != ((k : Int) == ((k + 1 + us.length : Nat) : Int))) = false := by
      have b1 : (t.1 == 4) = false := by rw [beq_eq_false_iff_ne]; omega
      have b2 : ((k : Int) == ((k + 1 + us.length : Nat) : Int)) = false := by rw [beq_eq_false_iff_ne]; omega
      rw [b1, b2]; rfl
    rw [hb]
    refine Ev.pos (by omega) (Ev.pos (by omega) (Ev.neg (by omega) (Ev.neg (by omega) ?_)))
    refine Ev.step (fun _ => by rw [casementlaw18_LexPlaces.j1]) ?_
    have hsz : (⟨t.2.1.toArray⟩ : ByteArray).size = t.2.1.length := size_mk t.2.1
    have hmx : mx 1 ((⟨t.2.1.toArray⟩ : ByteArray).size : Int) = ((max 1 t.2.1.length : Nat) : Int) := by rw [hsz]; unfold mx; omega
    have hw2 : wrap64 ((p : Int) + ((max 1 t.2.1.length : Nat) : Int)) = ((p + max 1 t.2.1.length : Nat) : Int) := wadd (by omega)
    have hw3 : wrap64 ((k : Int) + 1) = ((k + 1 : Nat) : Int) := wadd1 (by omega)
    rw [hmx, hw2, hw3, hsz]
    have hgo : Ev (fun r => casementlaw18_LexPlaces.l0 r s L 0 ((p + max 1 t.2.1.length : Nat) : Int) ((k + 1 : Nat) : Int)) true := ih (k + 1) _ hd h7
    refine Ev.neg (by decide) ?_
    by_cases k1 : t.1 = 1
    · exact Ev.pos k1 (piece_at s p t.2.1 _ hs (h5 (.inl k1)).1 (h5 (.inl k1)).2 hgo)
    · refine Ev.neg k1 ?_
      by_cases k3 : t.1 = 3
      · exact Ev.pos k3 (piece_at s p t.2.1 _ hs (h5 (.inr k3)).1 (h5 (.inr k3)).2 hgo)
      · exact Ev.neg k3 hgo

theorem LexPlaces : casementlaw18_LexPlaces.Pure := by
  intro s hs
  suffices h : Ev (fun r => casementlaw18_LexPlaces.f r s) true from h.rounds
  unfold casementlaw18_LexPlaces.f
  by_cases h1 : (s.size : Int) > 65536
  · exact Ev.pos h1 (Ev.bind awake_ev (Ev.fin rfl))
  · refine Ev.neg h1 ?_
    have ht := tokens_ev s (by omega)
    cases e : toks s.data.toList 0 with
    | error q =>
      rw [e] at ht
      have hf := toks_fault _ _ _ q.1 q.2 (Nat.le_refl _) e
      have hl : s.data.toList.length = s.size := by simp
      rw [hl] at hf
      refine Ev.bind ht (Ev.neg hf.2.2 (Ev.pos rfl (Ev.pos ?_ (Ev.pos ?_ (Ev.bind awake_ev (Ev.fin rfl))))))
      · show q.1 ≥ 0
        omega
      · show q.1 < (s.size : Int)
        omega
    | ok ts =>
      rw [e] at ht
      have hl : s.data.toList.length = s.size := by simp
      have htl := toks_len _ _ _ ts (Nat.le_refl _) e
      refine Ev.bind ht (Ev.pos rfl ?_)
      refine places_l0 s (by omega) _ (by simp [fin]; omega) ts 0 0 (by simp [fin]) ?_
      exact toks_chain s s.size 0 ts (by omega) (by omega) e
end Go.Proofs.Ythlncjiapjahaaa.Pure
