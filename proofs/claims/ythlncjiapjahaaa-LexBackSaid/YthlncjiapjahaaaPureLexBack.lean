/-
  LexBack: for every text the law's function answers true: a text that can be seen is, in quotes, one piece that stands for it, and a word is one piece. No conditions beyond the statement's own.
-/
import Derived.Test.YthlncjiapjahaaaPureLexWords
import Derived.Test.YthlncjiapjahaaaPureLexPlaces
namespace Go.Proofs.Ythlncjiapjahaaa.Pure
open Go.RowKit Go.Proofs.Ythlncjiapjahaaa.P Go.Proofs.Ythlncjiapjahaaa.L Go.Proofs.Ythlncjiapjahaaa.E Go.Proofs.YthlncjiapjahaaaW.PrintWords Go.Proofs.YthlncjiapjahaaaW.PrintLast
set_option linter.unusedVariables false
set_option linter.unusedSimpArgs false

def seenB (u : UInt8) : Bool := decide (32 ≤ u) && decide (u ≤ 126)
theorem seenB_iff : ∀ u : UInt8, (seenB u = true ↔ ¬ (u < 32 ∨ 127 ≤ u)) ∧ (seenB u = true ↔ (¬ ((u.toNat : Int) < 32) ∧ ¬ ((u.toNat : Int) > 126))) := all8 (by decide +kernel)

theorem seen_l0 (s : ByteArray) (hs : s.size ≤ 65536) : ∀ (d k : Nat), s.size - k ≤ d → k ≤ s.size →
    Ev (fun r => casementref18_Seen.l0 r s (k : Int)) ((s.data.toList.drop k).all seenB) := by
  intro d
  induction d with
  | zero =>
    intro k hd hk
    have e0 : s.data.toList.drop k = [] := List.drop_of_length_le (by have : s.data.toList.length = s.size := (by simp); omega)
    refine Ev.step (fun _ => by rw [casementref18_Seen.l0]) ?_
    rw [e0]
    exact Ev.neg (by omega) (Ev.fin (by simp))
  | succ d ih =>
    intro k hd hk
    refine Ev.step (fun _ => by rw [casementref18_Seen.l0]) ?_
    cases e : s.data.toList.drop k with
    | nil =>
      have := drop_nil e
      exact Ev.neg (by omega) (Ev.fin (by simp))
    | cons u l =>
      obtain ⟨hlt, hb, hdl⟩ := bt_cons e
      rw [hb]
      have hw1 : wrap64 ((k : Int) + 1) = ((k + 1 : Nat) : Int) := wadd1 (by omega)
      rw [hw1]
      refine Ev.pos (by omega) (Ev.pos (by omega) ?_)
      have i1 := ih (k + 1) (by omega) (by omega)
      rw [hdl] at i1
      have h2 := (seenB_iff u).2
      by_cases hp : seenB u = true
      · refine Ev.neg (h2.mp hp).1 (Ev.neg (h2.mp hp).2 ?_)
        simpa [hp] using i1
      · by_cases h3 : (u.toNat : Int) < 32
        · exact Ev.pos h3 (Ev.fin (by simp [hp]))
        · refine Ev.neg h3 (Ev.pos ?_ (Ev.fin (by simp [hp])))
          by_cases h4 : (u.toNat : Int) > 126
          · exact h4
          · exact absurd (h2.mpr ⟨h3, h4⟩) hp

theorem quotedL_quoteL (rest : List UInt8) : ∀ (l acc : List UInt8) (i : Nat), l.all seenB = true →
    quotedL (quoteL l ++ 34 :: rest) acc i = (acc ++ l, (i : Int) + (quoteL l).length + 1, 0) := by
  intro l
  induction l with
  | nil => intro acc i h; simp only [quoteL, List.nil_append]; rw [quotedL_quote]; simp
  | cons c l ih =>
    intro acc i h
    rw [List.all_cons, Bool.and_eq_true] at h
    by_cases h1 : c = 34 ∨ c = 92
    · have q : quoteL (c :: l) = 92 :: c :: quoteL l := by rw [quoteL, if_pos h1]
      rw [q, List.cons_append, List.cons_append, quotedL_esc h1, ih _ _ h.2]
      simp; omega
    · have q : quoteL (c :: l) = c :: quoteL l := by rw [quoteL, if_neg h1]
      rw [q, List.cons_append, quotedL_other (fun h => h1 (.inl h)) ((seenB_iff c).1.mp h.1) (fun h => h1 (.inr h)), ih _ _ h.2]
      simp; omega
theorem quotedL_unseen (rest : List UInt8) : ∀ (l acc : List UInt8) (i : Nat), l.all seenB = false →
    (quotedL (quoteL l ++ 34 :: rest) acc i).2.2 = 180 := by
  intro l
  induction l with
  | nil => intro acc i h; simp at h
  | cons c l ih =>
    intro acc i h
    by_cases h1 : c = 34 ∨ c = 92
    · have q : quoteL (c :: l) = 92 :: c :: quoteL l := by rw [quoteL, if_pos h1]
      have hc : seenB c = true := by rcases h1 with rfl | rfl <;> decide
      rw [List.all_cons, hc, Bool.true_and] at h
      rw [q, List.cons_append, List.cons_append, quotedL_esc h1, ih _ _ h]
    · have q : quoteL (c :: l) = c :: quoteL l := by rw [quoteL, if_neg h1]
      rw [q, List.cons_append]
      by_cases h2 : c < 32 ∨ 127 ≤ c
      · rw [quotedL_bad h2]
      · have hc : seenB c = true := (seenB_iff c).1.mpr h2
        rw [List.all_cons, hc, Bool.true_and] at h
        rw [quotedL_other (fun h => h1 (.inl h)) h2 (fun h => h1 (.inr h)), ih _ _ h]

theorem toks_quote (l : List UInt8) (h : l.all seenB = true) : toks (34 :: (quoteL l ++ [34])) 0 = .ok [(2, l, 0)] := by
  have hq := quotedL_quoteL [] l [] 1 h
  rw [toks, if_neg (by decide), if_pos rfl, hq, if_pos rfl]
  have hn : qn (quoteL l ++ [34]) = (quoteL l).length + 2 := by unfold qn; rw [hq]; simp; omega
  have hd : (quoteL l ++ [34]).drop (qn (quoteL l ++ [34]) - 1) = [] := by rw [hn]; apply List.drop_of_length_le; simp
  rw [hd, toks]; simp [Except.map]
theorem toks_unquote (l : List UInt8) (h : l.all seenB = false) : ∃ p e, toks (34 :: (quoteL l ++ [34])) 0 = .error (p, e) ∧ e ≠ 0 := by
  have hq := quotedL_unseen [] l [] 1 h
  refine ⟨((0 : Nat) : Int) + (quotedL (quoteL l ++ [34]) [] 1).2.1, 180, ?_, by decide⟩
  rw [toks, if_neg (by decide), if_pos rfl, hq, if_neg (by decide)]
theorem takeWhile_all : ∀ l : List UInt8, l.all plainB = true → l.takeWhile plainB = l ∧ l.dropWhile plainB = [] := by
  intro l
  induction l with
  | nil => intro _; exact ⟨rfl, rfl⟩
  | cons c l ih =>
    intro h
    rw [List.all_cons, Bool.and_eq_true] at h
    obtain ⟨a, b⟩ := ih h.2
    rw [List.takeWhile_cons, List.dropWhile_cons, if_pos h.1, if_pos h.1, a, b]
    exact ⟨rfl, rfl⟩
theorem toks_word (c : UInt8) (l : List UInt8) (h : (c :: l).all plainB = true) : toks (c :: l) 0 = .ok [(1, c :: l, 0)] := by
  rw [List.all_cons, Bool.and_eq_true] at h
  have h1 := apart_f c
  have hb : ¬ blankB c = true := fun hb => by have := (h1.1 hb).2.2; rw [h.1] at this; exact absurd this (by decide)
  have hs : ¬ signB c = true := fun hb => by have := (h1.2 hb).2; rw [h.1] at this; exact absurd this (by decide)
  have hq : c ≠ 34 := fun hq => by subst hq; exact absurd h.1 (by decide)
  obtain ⟨a, b⟩ := takeWhile_all l h.2
  rw [toks, if_neg hb, if_neg hq, if_neg hs, if_pos h.1, a, b, toks]
  simp [Except.map]

theorem back_j0 (s : ByteArray) (hs : s.size ≤ 4000) : Ev (fun r => casementlaw18_LexBack.j0 r s false) true := by
  refine Ev.step (fun _ => by rw [casementlaw18_LexBack.j0]) ?_
  have hp := plain_l0 s (by omega) s.size 0 (by omega) (by omega)
  rw [List.drop_zero] at hp
  refine Ev.neg (by decide) (Ev.bind (g := fun k => lex_Plain.f k s) hp ?_)
  by_cases h1 : (s.data.toList.all plainB && (s.toList != [])) = true
  · refine Ev.pos h1 ?_
    rw [Bool.and_eq_true] at h1
    have ht := tokens_ev s (by omega)
    have hsl : s.toList = s.data.toList := ByteArray.toList_eq s
    cases e : s.data.toList with
    | nil => rw [hsl, e] at h1; exact absurd h1.2 (by decide)
    | cons c l =>
      rw [e] at h1 ht
      rw [toks_word c l h1.1] at ht
      refine Ev.bind ht (Ev.pos rfl (Ev.pos rfl (Ev.pos (by simp [fin]) (Ev.pos rfl (Ev.pos ?_ (Ev.bind awake_ev (Ev.fin rfl)))))))
      show (⟨(c :: l).toArray⟩ : ByteArray).toList = s.toList
      rw [hsl, e, ByteArray.toList_mk]
  · exact Ev.neg h1 (Ev.bind awake_ev (Ev.fin rfl))

theorem LexBack : casementlaw18_LexBack.Pure := by
  intro s hs
  suffices h : Ev (fun r => casementlaw18_LexBack.f r s) true from h.rounds
  unfold casementlaw18_LexBack.f
  by_cases h1 : (s.size : Int) > 4000
  · exact Ev.pos h1 (Ev.bind awake_ev (Ev.fin rfl))
  · refine Ev.neg h1 ?_
    have hq : lex_Quote.f s = some ⟨(34 :: (quoteL s.data.toList ++ [34])).toArray⟩ := if_pos (by omega)
    have hl : s.data.toList.length = s.size := by simp
    have hle := quoteL_le s.data.toList
    have hsz : (⟨(34 :: (quoteL s.data.toList ++ [34])).toArray⟩ : ByteArray).size ≤ 65536 := by rw [size_mk]; simp; omega
    have ht := tokens_ev _ hsz
    have hse := seen_l0 s (by omega) s.size 0 (by omega) (by omega)
    rw [List.drop_zero] at hse
    refine Ev.bind (Ev.con hq) ?_
    cases hb : s.data.toList.all seenB with
    | true =>
      rw [show (⟨(34 :: (quoteL s.data.toList ++ [34])).toArray⟩ : ByteArray).data.toList = 34 :: (quoteL s.data.toList ++ [34]) from rfl, toks_quote _ hb] at ht
      rw [hb] at hse
      refine Ev.bind ht (Ev.bind (g := fun k => casementref18_Seen.f k s) hse (Ev.neg (by simp [fin]) (Ev.pos rfl (Ev.pos rfl (Ev.pos (by simp [fin]) (Ev.pos rfl (Ev.pos ?_ ?_)))))))
      · show (⟨s.data.toList.toArray⟩ : ByteArray).toList = s.toList
        rw [ByteArray.toList_mk]
      · exact back_j0 s (by omega)
    | false =>
      obtain ⟨p, e, hte, he⟩ := toks_unquote _ hb
      rw [show (⟨(34 :: (quoteL s.data.toList ++ [34])).toArray⟩ : ByteArray).data.toList = 34 :: (quoteL s.data.toList ++ [34]) from rfl, hte] at ht
      rw [hb] at hse
      refine Ev.bind ht (Ev.bind (g := fun k => casementref18_Seen.f k s) hse (Ev.neg ?_ (Ev.neg he (back_j0 s (by omega)))))
      have : (e == 0) = false := by rw [beq_eq_false_iff_ne]; exact he
      show ¬ (false != (e == 0)) = true
      rw [this]; decide
end Go.Proofs.Ythlncjiapjahaaa.Pure
