/-
  LexWords: for every text the law's function answers true: lex.Plain and lex.Quote tell what the reference's do. No conditions beyond the statement's own.
-/
import Derived.Test.YthlncjiapjahaaaLexRef
import Derived.Test.YthlncjiapjahaaaPx6
import Derived.Laws.Strings
namespace Go.Proofs.Ythlncjiapjahaaa.Pure
open Go.RowKit Go.Proofs.Ythlncjiapjahaaa.P Go.Proofs.Ythlncjiapjahaaa.L Go.Proofs.Ythlncjiapjahaaa.E Go.Proofs.YthlncjiapjahaaaW.PrintWords Go.Proofs.YthlncjiapjahaaaW.PrintLast
set_option linter.unusedVariables false
set_option linter.unusedSimpArgs false

def plainL (l : List UInt8) : Bool := l.all plainB && !l.isEmpty
theorem plain_l0 (s : ByteArray) (hs : s.size ≤ 65536) : ∀ (d k : Nat), s.size - k ≤ d → k ≤ s.size →
    Ev (fun r => lex_Plain.l0 r s (s.size : Int) (k : Int)) ((s.data.toList.drop k).all plainB && (s.toList != [])) := by
  intro d
  induction d with
  | zero =>
    intro k hd hk
    have e0 : s.data.toList.drop k = [] := List.drop_of_length_le (by have : s.data.toList.length = s.size := (by simp); omega)
    refine Ev.step (fun _ => by rw [lex_Plain.l0]) ?_
    rw [e0]
    exact Ev.neg (by omega) (Ev.fin (by simp))
  | succ d ih =>
    intro k hd hk
    refine Ev.step (fun _ => by rw [lex_Plain.l0]) ?_
    cases e : s.data.toList.drop k with
    | nil =>
      have := drop_nil e
      exact Ev.neg (by omega) (Ev.fin (by simp))
    | cons u l =>
      obtain ⟨hlt, hb, hdl⟩ := bt_cons e
      rw [hb, plain_f]
      have hw1 : wrap64 ((k : Int) + 1) = ((k + 1 : Nat) : Int) := wadd1 (by omega)
      rw [hw1]
      refine Ev.pos (by omega) (Ev.pos (by omega) (Ev.pos (by omega) (Ev.bind (Ev.con rfl) ?_)))
      by_cases hp : plainB u = true
      · refine Ev.pos hp ?_
        have := ih (k + 1) (by omega) (by omega)
        rw [hdl] at this
        simpa [hp] using this
      · exact Ev.neg hp (Ev.fin (by simp [hp]))
theorem rplain_l0 (s : ByteArray) (hs : s.size ≤ 65536) : ∀ (d k : Nat), s.size - k ≤ d → k ≤ s.size →
    Ev (fun r => casementref18_Plain.l0 r s (k : Int)) ((s.data.toList.drop k).all plainB && decide ((s.size : Int) > 0)) := by
  intro d
  induction d with
  | zero =>
    intro k hd hk
    have e0 : s.data.toList.drop k = [] := List.drop_of_length_le (by have : s.data.toList.length = s.size := (by simp); omega)
    refine Ev.step (fun _ => by rw [casementref18_Plain.l0]) ?_
    rw [e0]
    exact Ev.neg (by omega) (Ev.fin (by simp))
  | succ d ih =>
    intro k hd hk
    refine Ev.step (fun _ => by rw [casementref18_Plain.l0]) ?_
    cases e : s.data.toList.drop k with
    | nil =>
      have := drop_nil e
      exact Ev.neg (by omega) (Ev.fin (by simp))
    | cons u l =>
      obtain ⟨hlt, hb, hdl⟩ := bt_cons e
      rw [hb, rplain_f]
      have hw1 : wrap64 ((k : Int) + 1) = ((k + 1 : Nat) : Int) := wadd1 (by omega)
      rw [hw1]
      refine Ev.pos (by omega) (Ev.pos (by omega) (Ev.bind (Ev.con rfl) ?_))
      by_cases hp : plainB u = true
      · refine Ev.pos hp ?_
        have := ih (k + 1) (by omega) (by omega)
        rw [hdl] at this
        simpa [hp] using this
      · exact Ev.neg hp (Ev.fin (by simp [hp]))
theorem size_zero (s : ByteArray) : (s.toList != []) = decide ((s.size : Int) > 0) := by
  rw [ByteArray.toList_eq]
  have h : s.data.toList.length = s.size := by simp
  cases e : s.data.toList with
  | nil => rw [e] at h; simp at h; simp [← h]
  | cons x l => rw [e] at h; simp at h; rw [decide_eq_true (by omega)]; rfl
theorem quote_l0 (s : ByteArray) (hs : s.size ≤ 65536) : ∀ (d k : Nat) (acc : List UInt8), s.size - k ≤ d → k ≤ s.size → acc.length ≤ 2 * k + 1 →
    Ev (fun r => casementref18_Quote.l0 r s ⟨acc.toArray⟩ (k : Int)) ⟨(acc ++ (quoteL (s.data.toList.drop k) ++ [34])).toArray⟩ := by
  have fin34 : ∀ acc : List UInt8, (⟨acc.toArray⟩ : ByteArray) ++ (⟨#[34]⟩ : ByteArray) = ⟨(acc ++ ([] ++ [34])).toArray⟩ := by
    intro acc; apply ByteArray.ext; rw [ByteArray.data_append]; simp
  have esc : ∀ acc : List UInt8, (⟨acc.toArray⟩ : ByteArray) ++ (⟨#[92]⟩ : ByteArray) = ⟨(acc ++ [92]).toArray⟩ := by
    intro acc; apply ByteArray.ext; rw [ByteArray.data_append]; simp
  intro d
  induction d with
  | zero =>
    intro k acc hd hk ha
    have e0 : s.data.toList.drop k = [] := List.drop_of_length_le (by have : s.data.toList.length = s.size := (by simp); omega)
    refine Ev.step (fun _ => by rw [casementref18_Quote.l0]) ?_
    rw [e0, quoteL, size_mk acc]
    exact Ev.neg (by omega) (Ev.pos (by omega) (Ev.fin (fin34 acc)))
  | succ d ih =>
    intro k acc hd hk ha
    refine Ev.step (fun _ => by rw [casementref18_Quote.l0]) ?_
    cases e : s.data.toList.drop k with
    | nil =>
      have := drop_nil e
      rw [quoteL, size_mk acc]
      exact Ev.neg (by omega) (Ev.pos (by omega) (Ev.fin (fin34 acc)))
    | cons u l =>
      obtain ⟨hlt, hb, hdl⟩ := bt_cons e
      have hw1 : wrap64 ((k : Int) + 1) = ((k + 1 : Nat) : Int) := wadd1 (by omega)
      have hz : (k : Int).toNat = k := Int.toNat_natCast _
      have hz1 : ((k + 1 : Nat) : Int).toNat = k + 1 := Int.toNat_natCast _
      rw [hb, hw1, hz, hz1, esc, size_mk acc, size_mk (acc ++ [92]), size_ext1 hlt, app_ext e, app_ext e, List.length_append]
      clear hz hz1 hw1 hb
      have i1 := ih (k + 1) (acc ++ [92] ++ [u]) (by omega) (by omega) (by simp; omega)
      have i2 := ih (k + 1) (acc ++ [u]) (by omega) (by omega) (by simp; omega)
      rw [hdl] at i1 i2
      refine Ev.pos (by omega) (Ev.pos (by omega) ?_)
      simp only [List.length_cons, List.length_nil]
      by_cases h1 : u = 34
      · have q : quoteL (u :: l) = 92 :: u :: quoteL l := by rw [quoteL, if_pos (.inl h1)]
        rw [q]
        refine Ev.pos (by subst h1; rfl) (Ev.pos (by omega) (Ev.pos (by omega) (Ev.pos (by omega) (Ev.pos (by omega) ?_))))
        simpa using i1
      · refine Ev.neg (fun h => h1 ((u8_eq (v := 34)).mp h)) ?_
        by_cases h2 : u = 92
        · have q : quoteL (u :: l) = 92 :: u :: quoteL l := by rw [quoteL, if_pos (.inr h2)]
          rw [q]
          refine Ev.pos (by subst h2; rfl) (Ev.pos (by omega) (Ev.pos (by omega) (Ev.pos (by omega) (Ev.pos (by omega) ?_))))
          simpa using i1
        · have q : quoteL (u :: l) = u :: quoteL l := by rw [quoteL, if_neg (fun h => h.elim h1 h2)]
          rw [q]
          refine Ev.neg (fun h => h2 ((u8_eq (v := 92)).mp h)) (Ev.pos (by omega) (Ev.pos (by omega) (Ev.pos (by omega) ?_)))
          simpa using i2
theorem LexWords : casementlaw18_LexWords.Pure := by
  intro s hs
  suffices h : Ev (fun r => casementlaw18_LexWords.f r s) true from h.rounds
  unfold casementlaw18_LexWords.f
  by_cases h1 : (s.size : Int) > 4000
  · exact Ev.pos h1 (Ev.bind awake_ev (Ev.fin rfl))
  · refine Ev.neg h1 ?_
    have hp := plain_l0 s (by omega) s.size 0 (by omega) (by omega)
    have hr := rplain_l0 s (by omega) s.size 0 (by omega) (by omega)
    rw [size_zero] at hp
    refine Ev.bind (g := fun k => lex_Plain.f k s) hp (Ev.bind (g := fun k => casementref18_Plain.f k s) hr (Ev.pos (by simp) ?_))
    have hq : lex_Quote.f s = some ⟨(34 :: (quoteL s.data.toList ++ [34])).toArray⟩ := if_pos (by omega)
    refine Ev.bind (Ev.con hq) (Ev.bind (g := fun k => casementref18_Quote.f k s) (quote_l0 s (by omega) s.size 0 [34] (by omega) (by omega) (by simp)) (Ev.pos ?_ (Ev.bind awake_ev (Ev.fin rfl))))
    rfl
end Go.Proofs.Ythlncjiapjahaaa.Pure
