/-
  The pieces of a text of commands, as plain lists, and that the given program's lex.Tokens and the reference's Tokens tell just these. Conditions: none but the text's size.
-/
import Derived.Test.YthlncjiapjahaaaEv
import Derived.Test.YthlncjiapjahaaaPx3
namespace Go.Proofs.Ythlncjiapjahaaa.L
open Go.RowKit Go.Proofs.Ythlncjiapjahaaa.P Go.Proofs.Ythlncjiapjahaaa.E Go.Proofs.YthlncjiapjahaaaW.PrintWords
set_option linter.unusedVariables false
set_option linter.unusedSimpArgs false

def blankB (u : UInt8) : Bool := u == 32 || u == 9
def signB (u : UInt8) : Bool := u == 59 || u == 91 || u == 93 || u == 61
def plainB (u : UInt8) : Bool := decide (33 ≤ u) && decide (u ≤ 126) && !signB u && u != 34

theorem blank_f : ∀ u : UInt8, lex_blank.f (u.toNat : Int) = some (blankB u) := all8 (by decide +kernel)
theorem idx_f : ∀ u : UInt8, ∃ v, strings_IndexByte.f (⟨#[59, 91, 93, 61]⟩ : ByteArray) (u.toNat : Int) = some v ∧ (v ≥ 0 ↔ signB u = true) := by
  intro u
  refine ⟨_, rfl, ?_⟩
  revert u
  exact all8 (by decide +kernel)
theorem plain_f : ∀ u : UInt8, lex_plain.f (u.toNat : Int) = some (plainB u) := all8 (by decide +kernel)
theorem rsign_f : ∀ u : UInt8, casementref18_sign.f (u.toNat : Int) = some (signB u) := all8 (by decide +kernel)
theorem rplain_f : ∀ u : UInt8, casementref18_plain.f (u.toNat : Int) = some (plainB u) := all8 (by decide +kernel)
theorem apart_f : ∀ u : UInt8, (blankB u = true → u ≠ 34 ∧ signB u = false ∧ plainB u = false) ∧ (signB u = true → u ≠ 34 ∧ plainB u = false) := all8 (by decide +kernel)

/-! ### what a text in quotes tells -/
theorem quotedL_shape : ∀ (n : Nat) (l acc : List UInt8) (i : Nat), l.length ≤ n →
    ((quotedL l acc i).2.2 = 0 ∧ (i : Int) + 1 ≤ (quotedL l acc i).2.1 ∧ (quotedL l acc i).2.1 ≤ (i : Int) + l.length) ∨
    ((quotedL l acc i).2.2 = 181 ∧ 0 ≤ (quotedL l acc i).2.1 ∧ ((quotedL l acc i).2.1 < (i : Int) + l.length ∨ (quotedL l acc i).2.1 = 0)) ∨
    ((quotedL l acc i).2.2 = 180 ∧ 0 ≤ (quotedL l acc i).2.1 ∧ (quotedL l acc i).2.1 < (i : Int) + l.length) := by
  intro n
  induction n with
  | zero =>
    intro l acc i h
    obtain rfl : l = [] := by cases l; rfl; simp at h
    right; left
    simp [quotedL]
  | succ n ih =>
    intro l acc i h
    match l, h with
    | [], _ => right; left; simp [quotedL]
    | c :: l, h =>
      simp only [List.length_cons] at h
      by_cases h1 : c = 34
      · subst h1; rw [quotedL_quote]; left; simp; omega
      · by_cases h2 : c < 32 ∨ 127 ≤ c
        · rw [quotedL_bad h2]; right; right; simp; omega
        · by_cases h3 : c = 92
          · subst h3
            match l, h with
            | [], _ => rw [quotedL_end]; right; left; simp; omega
            | d :: l, h =>
              by_cases h4 : d = 34 ∨ d = 92
              · rw [quotedL_esc h4]
                simp only [List.length_cons] at h
                have := ih l (acc ++ [d]) (i + 2) (by omega)
                simp only [List.length_cons]
                omega
              · rw [quotedL_noesc h4]; right; left; simp; omega
          · rw [quotedL_other h1 h2 h3]
            have := ih l (acc ++ [c]) (i + 1) (by omega)
            simp only [List.length_cons]
            omega

/-! ### the pieces -/
abbrev T := Int × List UInt8 × Int
def qn (l : List UInt8) : Nat := (quotedL l [] 1).2.1.toNat
def toks : List UInt8 → Nat → Except (Int × Int) (List T)
  | [], _ => .ok []
  | c :: l, i =>
    if blankB c then toks l (i + 1)
    else if c = 34 then
      if (quotedL l [] 1).2.2 = 0 then (toks (l.drop (qn l - 1)) (i + qn l)).map ((2, (quotedL l [] 1).1, (i : Int)) :: ·)
      else .error ((i : Int) + (quotedL l [] 1).2.1, (quotedL l [] 1).2.2)
    else if signB c then (toks l (i + 1)).map ((3, [c], (i : Int)) :: ·)
    else if plainB c then (toks (l.dropWhile plainB) (i + 1 + (l.takeWhile plainB).length)).map ((1, c :: l.takeWhile plainB, (i : Int)) :: ·)
    else .error (i, 180)
termination_by l => l.length
decreasing_by
  · simp
  · simp; omega
  · simp
  · simp only [List.length_cons]
    have h1 := List.takeWhile_append_dropWhile (p := plainB) (l := l)
    have h2 := congrArg List.length h1
    rw [List.length_append] at h2
    omega

def mk (t : T) : S33 := ⟨t.1, ⟨t.2.1.toArray⟩, t.2.2⟩
def mkR (t : T) : S36 := ⟨t.1, ⟨t.2.1.toArray⟩, t.2.2⟩
def fin (n : Nat) (acc : List S33) : Except (Int × Int) (List T) → List S33 × Int × Int
  | .ok ts => (acc ++ ts.map mk ++ [⟨4, ⟨#[]⟩, n⟩], 0, 0)
  | .error (p, e) => ([], p, e)
def finR (n : Nat) (acc : List S36) : Except (Int × Int) (List T) → List S36 × Int × Int
  | .ok ts => (acc ++ ts.map mkR ++ [⟨4, ⟨#[]⟩, n⟩], 0, 0)
  | .error (p, e) => ([], p, e)
theorem fin_map (n : Nat) (acc) (t : T) (r) : fin n acc (r.map (t :: ·)) = fin n (acc ++ [mk t]) r := by
  cases r <;> simp [fin, Except.map]
theorem finR_map (n : Nat) (acc) (t : T) (r) : finR n acc (r.map (t :: ·)) = finR n (acc ++ [mkR t]) r := by
  cases r <;> simp [finR, Except.map]

theorem take_tw (l : List UInt8) : l.take (l.takeWhile plainB).length = l.takeWhile plainB := by
  induction l with
  | nil => rfl
  | cons c l ih => rw [List.takeWhile_cons]; split <;> simp [ih]
theorem drop_tw (l : List UInt8) : l.drop (l.takeWhile plainB).length = l.dropWhile plainB := by
  induction l with
  | nil => rfl
  | cons c l ih => rw [List.takeWhile_cons, List.dropWhile_cons]; split <;> simp [ih]
theorem takeWhile_snoc {u : UInt8} {l r : List UInt8} (h : r = u :: l) (hp : plainB u = true) : r.takeWhile plainB = u :: l.takeWhile plainB := by
  subst h; simp [List.takeWhile_cons, hp]

/-- the word's loop: from m bytes on (all of them plain) to the word's end -/
theorem tok_l1 (s : ByteArray) (hs : s.size ≤ 65536) (acc : List S33) (k : Nat) (res : List S33 × Int × Int) (hacc : acc.length ≤ 65536) :
    ∀ (d m : Nat), s.size - (k + m) ≤ d → k + m ≤ s.size →
    (Ev (fun r => lex_Tokens.l0 r s (acc ++ [(⟨1, s.extract k (k + m + ((s.data.toList.drop (k + m)).takeWhile plainB).length), (k : Int)⟩ : S33)]) ((k + m + ((s.data.toList.drop (k + m)).takeWhile plainB).length : Nat) : Int)) res) →
    Ev (fun r => lex_Tokens.l1 r s acc (k : Int) (m : Int)) res := by
  intro d
  induction d with
  | zero =>
    intro m hd hm H
    have e0 : s.data.toList.drop (k + m) = [] := List.drop_of_length_le (by have : s.data.toList.length = s.size := (by simp); omega)
    rw [e0] at H
    simp only [List.takeWhile_nil, List.length_nil, Nat.add_zero] at H
    refine Ev.step (fun _ => by rw [lex_Tokens.l1]) ?_
    have hw : wrap64 ((k : Int) + (m : Int)) = ((k + m : Nat) : Int) := wadd (by omega)
    rw [hw]
    refine Ev.neg (by omega) (Ev.pos (by omega) (Ev.pos (by omega) (Ev.pos (by omega) (Ev.pos (by omega) ?_))))
    simp only [Int.toNat_natCast]
    exact H
  | succ d ih =>
    intro m hd hm H
    refine Ev.step (fun _ => by rw [lex_Tokens.l1]) ?_
    have hw : wrap64 ((k : Int) + (m : Int)) = ((k + m : Nat) : Int) := wadd (by omega)
    rw [hw]
    cases e : s.data.toList.drop (k + m) with
    | nil =>
      rw [e] at H
      have := drop_nil e
      simp only [List.takeWhile_nil, List.length_nil, Nat.add_zero] at H
      refine Ev.neg (by omega) (Ev.pos (by omega) (Ev.pos (by omega) (Ev.pos (by omega) (Ev.pos (by omega) ?_))))
      simp only [Int.toNat_natCast]
      exact H
    | cons u l =>
      obtain ⟨hlt, hb, hdl⟩ := bt_cons e
      refine Ev.pos (by omega) (Ev.pos (by omega) ?_)
      rw [hb, plain_f]
      refine Ev.bind (Ev.con rfl) ?_
      by_cases hp : plainB u = true
      · have hw1 : wrap64 ((m : Int) + 1) = ((m + 1 : Nat) : Int) := wadd1 (by omega)
        rw [hw1]
        refine Ev.pos hp (ih (m + 1) (by omega) (by omega) ?_)
        have e1 : s.data.toList.drop (k + (m + 1)) = l := by rw [← hdl]; rfl
        rw [e1]
        rw [e, List.takeWhile_cons, if_pos hp] at H
        simp only [List.length_cons] at H
        have e2 : k + m + ((l.takeWhile plainB).length + 1) = k + (m + 1) + (l.takeWhile plainB).length := by omega
        rw [e2] at H
        exact H
      · rw [e, List.takeWhile_cons, if_neg hp] at H
        simp only [List.length_nil, Nat.add_zero] at H
        refine Ev.neg hp (Ev.pos (by omega) (Ev.pos (by omega) (Ev.pos (by omega) (Ev.pos (by omega) ?_))))
        simp only [Int.toNat_natCast]
        exact H

set_option maxHeartbeats 2000000 in
theorem tok_l0 (s : ByteArray) (hs : s.size ≤ 65536) : ∀ (d k : Nat) (acc : List S33), s.size - k ≤ d → k ≤ s.size → acc.length ≤ k →
    Ev (fun r => lex_Tokens.l0 r s acc (k : Int)) (fin s.size acc (toks (s.data.toList.drop k) k)) := by
  intro d
  induction d with
  | zero =>
    intro k acc hd hk ha
    have e0 : s.data.toList.drop k = [] := List.drop_of_length_le (by have : s.data.toList.length = s.size := (by simp); omega)
    refine Ev.step (fun _ => by rw [lex_Tokens.l0]) ?_
    refine Ev.neg (by omega) (Ev.pos (by omega) (Ev.fin ?_))
    rw [e0, toks]; simp [fin]
  | succ d ih =>
    intro k acc hd hk ha
    refine Ev.step (fun _ => by rw [lex_Tokens.l0]) ?_
    cases e : s.data.toList.drop k with
    | nil =>
      have := drop_nil e
      refine Ev.neg (by omega) (Ev.pos (by omega) (Ev.fin ?_))
      rw [toks]; simp [fin]
    | cons u l =>
      obtain ⟨hlt, hb, hdl⟩ := bt_cons e
      have hll : l.length = s.size - (k + 1) := by rw [← hdl, drop_len]
      have hw1 : wrap64 ((k : Int) + 1) = ((k + 1 : Nat) : Int) := wadd1 (by omega)
      refine Ev.pos (by omega) (Ev.pos (by omega) ?_)
      rw [hb, blank_f, hw1]
      refine Ev.bind (Ev.con rfl) ?_
      rw [toks]
      by_cases h1 : blankB u = true
      · rw [if_pos h1]
        refine Ev.pos h1 ?_
        rw [← hdl]
        exact ih (k + 1) acc (by omega) (by omega) (by omega)
      · rw [if_neg h1]
        refine Ev.neg h1 ?_
        by_cases h2 : u = 34
        · rw [if_pos h2]
          refine Ev.pos (by subst h2; rfl) (Ev.pos (by omega) ?_)
          have hq : lex_quoted.f (s.extract (k : Int).toNat s.size) = some (⟨(quotedL l [] 1).1.toArray⟩, (quotedL l [] 1).2.1, (quotedL l [] 1).2.2) := by
            unfold lex_quoted.f
            have h3 : (s.extract (k : Int).toNat s.size).size ≤ 140737488351232 := by rw [ByteArray.size_extract]; omega
            have h4 : (s.extract (k : Int).toNat s.size).data.toList.drop 1 = l := by
              rw [ext_data]
              have : (k : Int).toNat = k := by simp
              rw [this, List.take_of_length_le (by rw [drop_len]; omega), List.drop_drop, hdl]
            rw [if_pos h3, h4]
          refine Ev.bind (Ev.con hq) ?_
          have sh := quotedL_shape l.length l [] 1 (Nat.le_refl _)
          by_cases h3 : (quotedL l [] 1).2.2 = 0
          · rw [if_pos h3, fin_map]
            refine Ev.pos h3 (Ev.pos (by omega) ?_)
            have h5 : (1 : Int) + 1 ≤ (quotedL l [] 1).2.1 ∧ (quotedL l [] 1).2.1 ≤ 1 + (l.length : Int) := by
              rcases sh with ⟨_, a, b⟩ | ⟨a, _⟩ | ⟨a, _⟩
              · exact ⟨a, b⟩
              · omega
              · omega
            have hqn : (quotedL l [] 1).2.1 = ((qn l : Nat) : Int) := by unfold qn; omega
            rw [hqn] at h5
            have h6 : 2 ≤ qn l ∧ qn l ≤ 1 + l.length := by omega
            clear h5
            simp only
            rw [hqn]
            have hw2 : wrap64 ((k : Int) + (qn l : Int)) = ((k + qn l : Nat) : Int) := wadd (by omega)
            rw [hw2]
            clear sh hqn hw2 hq
            have hdd : l.drop (qn l - 1) = s.data.toList.drop (k + qn l) := by
              have h7 : k + 1 + (qn l - 1) = k + qn l := by omega
              have h8 := congrArg (List.drop (qn l - 1)) hdl
              rw [List.drop_drop, h7] at h8
              exact h8.symm
            rw [hdd]
            exact ih (k + qn l) _ (by omega) (by omega) (by simp; omega)
          · rw [if_neg h3]
            refine Ev.neg h3 (Ev.fin ?_)
            have h5 : 0 ≤ (quotedL l [] 1).2.1 ∧ (quotedL l [] 1).2.1 ≤ 1 + (l.length : Int) := by omega
            simp only [fin]
            rw [w64] <;> omega
        · rw [if_neg h2]
          have h2' : ¬ ((u.toNat : Int) = 34) := fun h => h2 (UInt8.toNat_inj.mp (by show u.toNat = 34; omega))
          refine Ev.neg h2' ?_
          obtain ⟨v, hv, hv2⟩ := idx_f u
          refine Ev.bind (Ev.con hv) ?_
          by_cases h3 : signB u = true
          · rw [if_pos h3, fin_map]
            refine Ev.pos (hv2.mpr h3) (Ev.pos (by omega) (Ev.pos (by omega) (Ev.pos (by omega) ?_)))
            have hm : (⟨3, s.extract (k : Int).toNat (((k + 1 : Nat) : Int)).toNat, (k : Int)⟩ : S33) = mk (3, [u], (k : Int)) := by
              have e1 : (k : Int).toNat = k := by simp
              have e2 : (((k + 1 : Nat) : Int)).toNat = k + 1 := by simp
              rw [e1, e2, ext_take, e]; simp [mk]
            rw [hm, ← hdl]
            exact ih (k + 1) _ (by omega) (by omega) (by simp; omega)
          · rw [if_neg h3]
            refine Ev.neg (fun h => h3 (hv2.mp h)) ?_
            rw [plain_f]
            refine Ev.bind (Ev.con rfl) ?_
            by_cases h4 : plainB u = true
            · rw [if_pos h4, fin_map]
              refine Ev.pos h4 ?_
              have hwl : (l.takeWhile plainB).length ≤ l.length := by
                have h1 := List.takeWhile_append_dropWhile (p := plainB) (l := l)
                have h2 := congrArg List.length h1
                rw [List.length_append] at h2
                omega
              refine tok_l1 s hs acc k _ (by omega) s.size 1 (by omega) (by omega) ?_
              rw [hdl]
              have hm : (⟨1, s.extract k (k + 1 + (l.takeWhile plainB).length), (k : Int)⟩ : S33) = mk (1, u :: l.takeWhile plainB, (k : Int)) := by
                rw [ext_take, e]
                have e1 : k + 1 + (l.takeWhile plainB).length - k = (l.takeWhile plainB).length + 1 := by omega
                rw [e1, List.take_succ_cons]
                rw [take_tw]; rfl
              rw [hm]
              have hdd : l.dropWhile plainB = s.data.toList.drop (k + 1 + (l.takeWhile plainB).length) := by
                rw [← List.drop_drop, hdl, drop_tw]
              rw [hdd]
              exact ih _ _ (by omega) (by omega) (by simp; omega)
            · rw [if_neg h4]
              exact Ev.neg h4 (Ev.fin rfl)

theorem tokens_ev (s : ByteArray) (hs : s.size ≤ 65536) : Ev (fun r => lex_Tokens.f r s) (fin s.size [] (toks s.data.toList 0)) := by
  unfold lex_Tokens.f
  refine Ev.neg (by omega) ?_
  exact tok_l0 s hs s.size 0 [] (by omega) (by omega) (by simp)
theorem tokens_long (s : ByteArray) (hs : ¬ s.size ≤ 65536) : Ev (fun r => lex_Tokens.f r s) ([], 0, 2) := by
  unfold lex_Tokens.f
  exact Ev.pos (by omega) (Ev.fin rfl)
end Go.Proofs.Ythlncjiapjahaaa.L
