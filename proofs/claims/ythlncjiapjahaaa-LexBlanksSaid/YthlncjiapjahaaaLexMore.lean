/-
  Further laws on the pieces of a text, as plain lists: where they stand; a text behind another one; a text moved on; a text in quotes.
-/
import Derived.Test.YthlncjiapjahaaaLexRef
namespace Go.Proofs.Ythlncjiapjahaaa.L
open Go.RowKit Go.Proofs.Ythlncjiapjahaaa.P Go.Proofs.Ythlncjiapjahaaa.E Go.Proofs.YthlncjiapjahaaaW.PrintWords
set_option linter.unusedVariables false
set_option linter.unusedSimpArgs false

/-- a way through toks: what each kind of first byte leads to -/
theorem toks_cases (c : UInt8) (l : List UInt8) (i : Nat) :
    (blankB c = true ∧ toks (c :: l) i = toks l (i + 1)) ∨
    (blankB c = false ∧ c = 34 ∧ (quotedL l [] 1).2.2 = 0 ∧ toks (c :: l) i = (toks (l.drop (qn l - 1)) (i + qn l)).map ((2, (quotedL l [] 1).1, (i : Int)) :: ·)) ∨
    (blankB c = false ∧ c = 34 ∧ (quotedL l [] 1).2.2 ≠ 0 ∧ toks (c :: l) i = .error ((i : Int) + (quotedL l [] 1).2.1, (quotedL l [] 1).2.2)) ∨
    (blankB c = false ∧ c ≠ 34 ∧ signB c = true ∧ toks (c :: l) i = (toks l (i + 1)).map ((3, [c], (i : Int)) :: ·)) ∨
    (blankB c = false ∧ c ≠ 34 ∧ signB c = false ∧ plainB c = true ∧ toks (c :: l) i = (toks (l.dropWhile plainB) (i + 1 + (l.takeWhile plainB).length)).map ((1, c :: l.takeWhile plainB, (i : Int)) :: ·)) ∨
    (blankB c = false ∧ c ≠ 34 ∧ signB c = false ∧ plainB c = false ∧ toks (c :: l) i = .error ((i : Int), 180)) := by
  rw [toks]
  by_cases h1 : blankB c = true
  · left; rw [if_pos h1]; exact ⟨h1, rfl⟩
  · have h1' : blankB c = false := by simpa using h1
    rw [if_neg h1]
    by_cases h2 : c = 34
    · rw [if_pos h2]
      by_cases h3 : (quotedL l [] 1).2.2 = 0
      · right; left; rw [if_pos h3]; exact ⟨h1', h2, h3, rfl⟩
      · right; right; left; rw [if_neg h3]; exact ⟨h1', h2, h3, rfl⟩
    · rw [if_neg h2]
      by_cases h3 : signB c = true
      · right; right; right; left; rw [if_pos h3]; exact ⟨h1', h2, h3, rfl⟩
      · have h3' : signB c = false := by simpa using h3
        rw [if_neg h3]
        by_cases h4 : plainB c = true
        · right; right; right; right; left; rw [if_pos h4]; exact ⟨h1', h2, h3', h4, rfl⟩
        · right; right; right; right; right; rw [if_neg h4]; exact ⟨h1', h2, h3', by simpa using h4, rfl⟩

theorem map_ok {r : Except (Int × Int) (List T)} {t : T} {ts : List T} (h : r.map (t :: ·) = .ok ts) : ∃ us, r = .ok us ∧ ts = t :: us := by
  cases r with
  | error p => simp [Except.map] at h
  | ok us => simp only [Except.map, Except.ok.injEq] at h; exact ⟨us, rfl, h.symm⟩
theorem tw_len (l : List UInt8) : (l.takeWhile plainB).length + (l.dropWhile plainB).length = l.length := by
  have h1 := List.takeWhile_append_dropWhile (p := plainB) (l := l)
  have h2 := congrArg List.length h1
  rwa [List.length_append] at h2

/-! ### in quotes -/
theorem quotedL_text : ∀ (n : Nat) (l acc : List UInt8) (i : Nat), l.length ≤ n → (quotedL l acc i).2.2 = 0 →
    ((quotedL l acc i).1.length : Int) + (i : Int) + 1 ≤ (acc.length : Int) + (quotedL l acc i).2.1 := by
  intro n
  induction n with
  | zero =>
    intro l acc i h e
    obtain rfl : l = [] := by cases l; rfl; simp at h
    simp [quotedL] at e
  | succ n ih =>
    intro l acc i h e
    match l, h with
    | [], _ => simp [quotedL] at e
    | c :: l, h =>
      simp only [List.length_cons] at h
      by_cases h1 : c = 34
      · subst h1; rw [quotedL_quote]; simp; omega
      · by_cases h2 : c < 32 ∨ 127 ≤ c
        · rw [quotedL_bad h2] at e; simp at e
        · by_cases h3 : c = 92
          · subst h3
            match l, h with
            | [], _ => rw [quotedL_end] at e; simp at e
            | d :: l, h =>
              by_cases h4 : d = 34 ∨ d = 92
              · rw [quotedL_esc h4] at e ⊢
                simp only [List.length_cons] at h
                have := ih l (acc ++ [d]) (i + 2) (by omega) e
                simp only [List.length_append, List.length_cons, List.length_nil] at this
                omega
              · rw [quotedL_noesc h4] at e; simp at e
          · rw [quotedL_other h1 h2 h3] at e ⊢
            have := ih l (acc ++ [c]) (i + 1) (by omega) e
            simp only [List.length_append, List.length_cons, List.length_nil] at this
            omega

theorem quotedL_app (r : List UInt8) : ∀ (n : Nat) (l acc : List UInt8) (i : Nat), l.length ≤ n → (quotedL l acc i).2.2 = 0 →
    quotedL (l ++ r) acc i = quotedL l acc i := by
  intro n
  induction n with
  | zero =>
    intro l acc i h e
    obtain rfl : l = [] := by cases l; rfl; simp at h
    simp [quotedL] at e
  | succ n ih =>
    intro l acc i h e
    match l, h with
    | [], _ => simp [quotedL] at e
    | c :: l, h =>
      simp only [List.length_cons] at h
      rw [List.cons_append]
      by_cases h1 : c = 34
      · subst h1; rw [quotedL_quote, quotedL_quote]
      · by_cases h2 : c < 32 ∨ 127 ≤ c
        · rw [quotedL_bad h2] at e; simp at e
        · by_cases h3 : c = 92
          · subst h3
            match l, h with
            | [], _ => rw [quotedL_end] at e; simp at e
            | d :: l, h =>
              rw [List.cons_append]
              by_cases h4 : d = 34 ∨ d = 92
              · rw [quotedL_esc h4] at e ⊢
                rw [quotedL_esc h4]
                simp only [List.length_cons] at h
                exact ih l (acc ++ [d]) (i + 2) (by omega) e
              · rw [quotedL_noesc h4] at e; simp at e
          · rw [quotedL_other h1 h2 h3] at e ⊢
            rw [quotedL_other h1 h2 h3]
            exact ih l (acc ++ [c]) (i + 1) (by omega) e

theorem qn_le {l : List UInt8} (h : (quotedL l [] 1).2.2 = 0) : 2 ≤ qn l ∧ qn l ≤ 1 + l.length ∧ (quotedL l [] 1).2.1 = (qn l : Int) ∧ (quotedL l [] 1).1.length + 2 ≤ qn l := by
  have sh := quotedL_shape l.length l [] 1 (Nat.le_refl _)
  have tx := quotedL_text l.length l [] 1 (Nat.le_refl _) h
  simp only [List.length_nil] at tx
  have h5 : (1 : Int) + 1 ≤ (quotedL l [] 1).2.1 ∧ (quotedL l [] 1).2.1 ≤ 1 + (l.length : Int) := by
    rcases sh with ⟨_, a, b⟩ | ⟨a, _⟩ | ⟨a, _⟩
    · exact ⟨a, b⟩
    · omega
    · omega
  unfold qn
  omega

/-! ### where pieces stand -/
def Chain (s : ByteArray) : Nat → List T → Prop
  | at0, [] => at0 ≤ s.size
  | at0, t :: ts => ∃ p : Nat, t.2.2 = (p : Int) ∧ at0 ≤ p ∧ p ≤ s.size ∧ (t.1 = 1 ∨ t.1 = 2 ∨ t.1 = 3) ∧
      (t.1 = 1 ∨ t.1 = 3 → p + t.2.1.length ≤ s.size ∧ (s.data.toList.drop p).take t.2.1.length = t.2.1) ∧ p + max 1 t.2.1.length ≤ s.size ∧ Chain s (p + max 1 t.2.1.length) ts

theorem Chain.mono {s : ByteArray} {ts : List T} {a b : Nat} (h : Chain s b ts) (hab : a ≤ b) : Chain s a ts := by
  cases ts with
  | nil => exact Nat.le_trans hab h
  | cons t ts =>
    obtain ⟨p, h1, h2, r⟩ := h
    exact ⟨p, h1, Nat.le_trans hab h2, r⟩

theorem toks_chain (s : ByteArray) : ∀ (n i : Nat) (ts : List T), s.size - i ≤ n → i ≤ s.size → toks (s.data.toList.drop i) i = .ok ts → Chain s i ts := by
  intro n
  induction n with
  | zero =>
    intro i ts hn hi h
    have e0 : s.data.toList.drop i = [] := List.drop_of_length_le (by have : s.data.toList.length = s.size := (by simp); omega)
    rw [e0, toks] at h
    injection h with h; subst h
    exact hi
  | succ n ih =>
    intro i ts hn hi h
    cases e : s.data.toList.drop i with
    | nil =>
      rw [e, toks] at h
      injection h with h; subst h
      exact hi
    | cons c l =>
      have hlt : i < s.size := (bt_cons e).1
      have hdl : s.data.toList.drop (i + 1) = l := (bt_cons e).2.2
      have hll : l.length = s.size - (i + 1) := by rw [← hdl, drop_len]
      rw [e] at h
      rcases toks_cases c l i with ⟨_, h'⟩ | ⟨_, _, h2, h'⟩ | ⟨_, _, _, h'⟩ | ⟨_, _, _, h'⟩ | ⟨_, _, _, _, h'⟩ | ⟨_, _, _, _, h'⟩
      · rw [h', ← hdl] at h
        exact (ih (i + 1) ts (by omega) (by omega) h).mono (by omega)
      · rw [h'] at h
        obtain ⟨us, hu, rfl⟩ := map_ok h
        obtain ⟨q1, q2, _, q4⟩ := qn_le h2
        have h7 : i + 1 + (qn l - 1) = i + qn l := by omega
        have h8 := congrArg (List.drop (qn l - 1)) hdl
        rw [List.drop_drop, h7] at h8
        rw [← h8] at hu
        have hc := ih (i + qn l) us (by omega) (by omega) hu
        refine ⟨i, rfl, Nat.le_refl _, hi, .inr (.inl rfl), ?_, ?_, hc.mono ?_⟩
        · intro hk; rcases hk with hk | hk <;> simp at hk
        · show i + max 1 (quotedL l [] 1).1.length ≤ s.size
          omega
        · show i + max 1 (quotedL l [] 1).1.length ≤ i + qn l
          omega
      · rw [h'] at h; simp at h
      · rw [h'] at h
        obtain ⟨us, hu, rfl⟩ := map_ok h
        rw [← hdl] at hu
        have hc := ih (i + 1) us (by omega) (by omega) hu
        refine ⟨i, rfl, Nat.le_refl _, hi, .inr (.inr rfl), ?_, ?_, hc.mono ?_⟩
        · intro _
          refine ⟨by simp; omega, ?_⟩
          rw [e]; simp
        · simp; omega
        · simp
      · rw [h'] at h
        obtain ⟨us, hu, rfl⟩ := map_ok h
        have hw := tw_len l
        have hdd : l.dropWhile plainB = s.data.toList.drop (i + 1 + (l.takeWhile plainB).length) := by rw [← List.drop_drop, hdl, drop_tw]
        rw [hdd] at hu
        have hc := ih (i + 1 + (l.takeWhile plainB).length) us (by omega) (by omega) hu
        refine ⟨i, rfl, Nat.le_refl _, hi, .inl rfl, ?_, ?_, hc.mono ?_⟩
        · intro _
          refine ⟨by simp; omega, ?_⟩
          rw [e]; simp [take_tw]
        · simp; omega
        · simp; omega
      · rw [h'] at h; simp at h

/-- a fault lies in the text -/
theorem toks_fault : ∀ (n : Nat) (l : List UInt8) (i : Nat) (p e : Int), l.length ≤ n → toks l i = .error (p, e) → (i : Int) ≤ p ∧ p < (i : Int) + l.length ∧ e ≠ 0 := by
  intro n
  induction n with
  | zero =>
    intro l i p e hn h
    obtain rfl : l = [] := by cases l; rfl; simp at hn
    rw [toks] at h; simp at h
  | succ n ih =>
    intro l i p e hn h
    cases l with
    | nil => rw [toks] at h; simp at h
    | cons c l =>
      simp only [List.length_cons] at hn ⊢
      have key : ∀ (m : List UInt8) (j : Nat) (t : T), m.length ≤ n → (toks m j).map (t :: ·) = .error (p, e) → (j : Int) ≤ p ∧ p < (j : Int) + m.length ∧ e ≠ 0 := by
        intro m j t hm h
        cases hr : toks m j with
        | error q => rw [hr] at h; simp only [Except.map, Except.error.injEq] at h; subst h; exact ih m j p e hm hr
        | ok us => rw [hr] at h; simp [Except.map] at h
      rcases toks_cases c l i with ⟨_, h'⟩ | ⟨_, _, h2, h'⟩ | ⟨_, _, h2, h'⟩ | ⟨_, _, _, h'⟩ | ⟨_, _, _, _, h'⟩ | ⟨_, _, _, _, h'⟩
      · rw [h'] at h
        have := ih l (i + 1) p e (by omega) h
        omega
      · rw [h'] at h
        obtain ⟨q1, q2, _, _⟩ := qn_le h2
        have := key _ _ _ (by simp; omega) h
        simp only [List.length_drop] at this
        omega
      · rw [h'] at h
        simp only [Except.error.injEq, Prod.mk.injEq] at h
        have sh := quotedL_shape l.length l [] 1 (Nat.le_refl _)
        omega
      · rw [h'] at h
        have := key _ _ _ (by omega) h
        omega
      · rw [h'] at h
        have hw := tw_len l
        have := key _ _ _ (by omega) h
        omega
      · rw [h'] at h
        simp only [Except.error.injEq, Prod.mk.injEq] at h
        omega
end Go.Proofs.Ythlncjiapjahaaa.L
