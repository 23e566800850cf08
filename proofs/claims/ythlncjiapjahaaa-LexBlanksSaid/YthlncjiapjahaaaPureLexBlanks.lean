/-
  LexBlanks: for every two texts and every gap of blanks the law's function answers true: the pieces of both, with blanks between, are those of the one and then of the other. No conditions beyond the statement's own.
-/
import Derived.Test.YthlncjiapjahaaaLexMore
import Derived.Test.YthlncjiapjahaaaPx4
import Derived.Laws.Strings
namespace Go.Proofs.Ythlncjiapjahaaa.Pure
open Go.RowKit Go.Proofs.Ythlncjiapjahaaa.P Go.Proofs.Ythlncjiapjahaaa.L Go.Proofs.Ythlncjiapjahaaa.E Go.Proofs.YthlncjiapjahaaaW.PrintWords Go.Proofs.YthlncjiapjahaaaW.PrintLast
set_option linter.unusedVariables false
set_option linter.unusedSimpArgs false

def sh (k : Nat) (t : T) : T := (t.1, t.2.1, t.2.2 + (k : Int))
theorem sh_map {k : Nat} {r : Except (Int × Int) (List T)} {t : T} {ts : List T} {us : List T} (hu : r = .ok us) : r.map (t :: ·) = .ok (t :: us) := by rw [hu]; rfl



theorem toks_shift (k : Nat) : ∀ (n : Nat) (l : List UInt8) (i : Nat) (ts : List T), l.length ≤ n → toks l i = .ok ts → toks l (i + k) = .ok (ts.map (sh k)) := by
  intro n
  induction n with
  | zero =>
    intro l i ts hn h
    obtain rfl : l = [] := by cases l; rfl; simp at hn
    rw [toks] at h ⊢; injection h with h; subst h; rfl
  | succ n ih =>
    intro l i ts hn h
    cases l with
    | nil => rw [toks] at h ⊢; injection h with h; subst h; rfl
    | cons c l =>
      simp only [List.length_cons] at hn
      rcases toks_cases c l i with ⟨b, h'⟩ | ⟨b, c1, h2, h'⟩ | ⟨_, _, h2, h'⟩ | ⟨b, c1, c2, h'⟩ | ⟨b, c1, c2, c3, h'⟩ | ⟨_, _, _, _, h'⟩
      · rw [h'] at h
        rw [toks, if_pos b]
        have := ih l (i + 1) ts (by omega) h
        rw [show i + k + 1 = i + 1 + k by omega]; exact this
      · rw [h'] at h
        obtain ⟨us, hu, rfl⟩ := map_ok h
        have := ih _ _ us (by simp; omega) hu
        rw [toks, if_neg (by rw [b]; decide), if_pos c1, if_pos h2, show i + k + qn l = i + qn l + k by omega, this]
        simp [Except.map, sh]
      · rw [h'] at h; simp at h
      · rw [h'] at h
        obtain ⟨us, hu, rfl⟩ := map_ok h
        have := ih _ _ us (by omega) hu
        rw [toks, if_neg (by rw [b]; decide), if_neg c1, if_pos c2, show i + k + 1 = i + 1 + k by omega, this]
        simp [Except.map, sh]
      · rw [h'] at h
        obtain ⟨us, hu, rfl⟩ := map_ok h
        have hw := tw_len l
        have := ih _ _ us (by omega) hu
        rw [toks, if_neg (by rw [b]; decide), if_neg c1, if_neg (by rw [c2]; decide), if_pos c3, show i + k + 1 + (l.takeWhile plainB).length = i + 1 + (l.takeWhile plainB).length + k by omega, this]
        simp [Except.map, sh]
      · rw [h'] at h; simp at h

theorem tw_app (b : UInt8) (r : List UInt8) (hb : plainB b = false) : ∀ l : List UInt8, (l ++ b :: r).takeWhile plainB = l.takeWhile plainB ∧ (l ++ b :: r).dropWhile plainB = l.dropWhile plainB ++ b :: r := by
  intro l
  induction l with
  | nil => rw [List.nil_append, List.takeWhile_cons, List.dropWhile_cons, hb]; exact ⟨rfl, rfl⟩
  | cons c l ih =>
    rw [List.cons_append, List.takeWhile_cons, List.takeWhile_cons, List.dropWhile_cons, List.dropWhile_cons]
    by_cases h : plainB c = true
    · rw [if_pos h, if_pos h, if_pos h, if_pos h, ih.1, ih.2]; exact ⟨rfl, rfl⟩
    · rw [if_neg h, if_neg h, if_neg h, if_neg h]; exact ⟨rfl, rfl⟩

theorem toks_app (b : UInt8) (r : List UInt8) (us : List T) (hb : blankB b = true) : ∀ (n : Nat) (l : List UInt8) (i : Nat) (ts : List T), l.length ≤ n → toks l i = .ok ts → toks (b :: r) (i + l.length) = .ok us → toks (l ++ b :: r) i = .ok (ts ++ us) := by
  have hpl : plainB b = false := ((apart_f b).1 hb).2.2
  intro n
  induction n with
  | zero =>
    intro l i ts hn h hu
    obtain rfl : l = [] := by cases l; rfl; simp at hn
    rw [toks] at h; injection h with h; subst h; simpa using hu
  | succ n ih =>
    intro l i ts hn h hu
    cases l with
    | nil => rw [toks] at h; injection h with h; subst h; simpa using hu
    | cons c l =>
      simp only [List.length_cons] at hn hu
      rw [List.cons_append]
      rcases toks_cases c l i with ⟨b1, h'⟩ | ⟨b1, c1, h2, h'⟩ | ⟨_, _, h2, h'⟩ | ⟨b1, c1, c2, h'⟩ | ⟨b1, c1, c2, c3, h'⟩ | ⟨_, _, _, _, h'⟩
      · rw [h'] at h
        rw [toks, if_pos b1]
        exact ih l (i + 1) ts (by omega) h (by rw [show i + 1 + l.length = i + (l.length + 1) by omega]; exact hu)
      · rw [h'] at h
        obtain ⟨vs, hv, rfl⟩ := map_ok h
        have hq := quotedL_app (b :: r) l.length l [] 1 (Nat.le_refl _) h2
        obtain ⟨q1, q2, _, _⟩ := qn_le h2
        have hqn : qn (l ++ b :: r) = qn l := by unfold qn; rw [hq]
        have hd : (l ++ b :: r).drop (qn l - 1) = l.drop (qn l - 1) ++ b :: r := List.drop_append_of_le_length (by omega)
        have := ih _ _ vs (by simp; omega) hv (by rw [List.length_drop, show i + qn l + (l.length - (qn l - 1)) = i + (l.length + 1) by omega]; exact hu)
        rw [toks, if_neg (by rw [b1]; decide), if_pos c1, hq, if_pos h2, hqn, hd, this]
        rfl
      · rw [h'] at h; simp at h
      · rw [h'] at h
        obtain ⟨vs, hv, rfl⟩ := map_ok h
        have := ih _ _ vs (by omega) hv (by rw [show i + 1 + l.length = i + (l.length + 1) by omega]; exact hu)
        rw [toks, if_neg (by rw [b1]; decide), if_neg c1, if_pos c2, this]
        rfl
      · rw [h'] at h
        obtain ⟨vs, hv, rfl⟩ := map_ok h
        have hw := tw_len l
        obtain ⟨w1, w2⟩ := tw_app b r hpl l
        have := ih _ _ vs (by omega) hv (by rw [show i + 1 + (l.takeWhile plainB).length + (l.dropWhile plainB).length = i + (l.length + 1) by omega]; exact hu)
        rw [toks, if_neg (by rw [b1]; decide), if_neg c1, if_neg (by rw [c2]; decide), if_pos c3, w1, w2, this]
        rfl
      · rw [h'] at h; simp at h

theorem toks_blanks (r : List UInt8) : ∀ (g : List UInt8) (i : Nat), g.all blankB = true → toks (g ++ r) i = toks r (i + g.length) := by
  intro g
  induction g with
  | nil => intro i _; rfl
  | cons c g ih =>
    intro i h
    rw [List.all_cons, Bool.and_eq_true] at h
    rw [List.cons_append, toks, if_pos h.1, ih _ h.2, List.length_cons, show i + 1 + g.length = i + (g.length + 1) by omega]

theorem toks_both (c : UInt8) (g A B : List UInt8) (ta tb : List T) (hg : (c :: g).all blankB = true) (ha : toks A 0 = .ok ta) (hb : toks B 0 = .ok tb) :
    toks ((c :: g) ++ (A ++ ((c :: g) ++ (B ++ (c :: g))))) 0 = .ok (ta.map (sh (g.length + 1)) ++ tb.map (sh (2 * (g.length + 1) + A.length))) := by
  have hc : blankB c = true := by rw [List.all_cons, Bool.and_eq_true] at hg; exact hg.1
  have h1 := toks_shift (g.length + 1) A.length A 0 ta (Nat.le_refl _) ha
  have h2 := toks_shift (2 * (g.length + 1) + A.length) B.length B 0 tb (Nat.le_refl _) hb
  have h3 : toks (c :: g) (0 + (2 * (g.length + 1) + A.length) + B.length) = .ok [] := by
    have := toks_blanks [] (c :: g) (0 + (2 * (g.length + 1) + A.length) + B.length) hg
    rw [List.append_nil] at this; rw [this, toks]
  have h4 := toks_app c g [] hc B.length B _ _ (Nat.le_refl _) h2 h3
  have h5 : toks (c :: (g ++ (B ++ c :: g))) (0 + (g.length + 1) + A.length) = .ok (tb.map (sh (2 * (g.length + 1) + A.length)) ++ []) := by
    have := toks_blanks (B ++ c :: g) (c :: g) (0 + (g.length + 1) + A.length) hg
    rw [List.cons_append] at this
    rw [this, List.length_cons, show 0 + (g.length + 1) + A.length + (g.length + 1) = 0 + (2 * (g.length + 1) + A.length) by omega]
    exact h4
  have h6 := toks_app c (g ++ (B ++ c :: g)) _ hc A.length A _ _ (Nat.le_refl _) h1 h5
  rw [toks_blanks _ (c :: g) 0 hg, List.length_cons]
  rw [List.append_nil] at h6
  exact h6

/-! ### pieces and their places -/
theorem kinds_of (s : ByteArray) : ∀ (ts : List T) (a : Nat), Chain s a ts → ∀ t ∈ ts, t.1 ≠ 4 ∧ 0 ≤ t.2.2 ∧ t.2.2 ≤ (s.size : Int) := by
  intro ts
  induction ts with
  | nil => intro a _ t h; simp at h
  | cons u ts ih =>
    intro a hc t ht
    obtain ⟨p, h1, h2, h3, h4, h5, h6, h7⟩ := hc
    rcases List.mem_cons.mp ht with rfl | ht
    · rw [h1]; exact ⟨by omega, by omega, by omega⟩
    · exact ih _ h7 t ht

abbrev rdT (xs : List S33) (i : Int) := rd_T33 xs i
theorem rd_left {xs ys : List S33} {k : Nat} (h : k < xs.length) : rdT (xs ++ ys) (k : Int) = rdT xs (k : Int) := by
  unfold rdT rd_T33
  rw [Int.toNat_natCast, List.getD_eq_getElem?_getD, List.getD_eq_getElem?_getD, List.getElem?_append_left h]
theorem rd_right {xs ys : List S33} {k : Nat} (h : xs.length ≤ k) : rdT (xs ++ ys) (k : Int) = rdT ys ((k - xs.length : Nat) : Int) := by
  unfold rdT rd_T33
  rw [Int.toNat_natCast, Int.toNat_natCast, List.getD_eq_getElem?_getD, List.getD_eq_getElem?_getD, List.getElem?_append_right h]
theorem rd_map {l : List T} {k : Nat} (h : k < l.length) : rdT (l.map mk) (k : Int) = mk l[k] := by
  unfold rdT rd_T33
  rw [Int.toNat_natCast, List.getD_eq_getElem?_getD, List.getElem?_map, List.getElem?_eq_getElem h]; rfl

theorem blanks_l1 (a gap : ByteArray) (ta tb : List T) (n m e : Nat) (ha : a.size ≤ 3000) (hgap : gap.size ≤ 5) (hn : n ≤ 3000) (hm : m ≤ 3000)
    (hta : ta.length ≤ 3000) (htb : tb.length ≤ 3000) (ka : ∀ t ∈ ta, t.1 ≠ 4 ∧ 0 ≤ t.2.2 ∧ t.2.2 ≤ 3000) (kb : ∀ t ∈ tb, t.1 ≠ 4 ∧ 0 ≤ t.2.2 ∧ t.2.2 ≤ 3000)
    (he : e = m + (2 * gap.size + a.size) + gap.size) :
    ∀ (d k : Nat), ta.length + tb.length + 1 - k ≤ d → k ≤ ta.length + tb.length + 1 →
    Ev (fun r => casementlaw18_LexBlanks.l1 r a (ta.map mk ++ [⟨4, ⟨#[]⟩, (n : Int)⟩]) (tb.map mk ++ [⟨4, ⟨#[]⟩, (m : Int)⟩]) gap
      ((ta.map (sh gap.size) ++ tb.map (sh (2 * gap.size + a.size))).map mk ++ [⟨4, ⟨#[]⟩, (e : Int)⟩]) (k : Int)) true := by
  intro d
  have l7 : (ta.map mk ++ [(⟨4, ⟨#[]⟩, (n : Int)⟩ : S33)]).length = ta.length + 1 := by simp
  have l10 : (tb.map mk ++ [(⟨4, ⟨#[]⟩, (m : Int)⟩ : S33)]).length = tb.length + 1 := by simp
  have l15 : ((ta.map (sh gap.size) ++ tb.map (sh (2 * gap.size + a.size))).map mk ++ [(⟨4, ⟨#[]⟩, (e : Int)⟩ : S33)]).length = ta.length + tb.length + 1 := by simp; omega
  induction d with
  | zero =>
    intro k hd hk
    refine Ev.step (fun _ => by rw [casementlaw18_LexBlanks.l1]) ?_
    rw [l7, l10, l15]
    exact Ev.neg (by omega) (Ev.bind awake_ev (Ev.fin rfl))
  | succ d ih =>
    intro k hd hk
    refine Ev.step (fun _ => by rw [casementlaw18_LexBlanks.l1]) ?_
    rw [l7, l10, l15]
    by_cases hlt : k < ta.length + tb.length + 1
    · refine Ev.pos (by omega) ?_
      have hw1 : Aside0 (wrap64 (((ta.length + 1 : Nat) : Int) - 1) = (ta.length : Int)) := ⟨by rw [w64 (by omega) (by omega)]; omega⟩
      have hwk : Aside0 (wrap64 ((k : Int) + 1) = ((k + 1 : Nat) : Int)) := ⟨wadd1 (by omega)⟩
      rw [hw1.out]
      have inext := ih (k + 1) (by omega) (by omega)
      have h15 : k < (((ta.map (sh gap.size) ++ tb.map (sh (2 * gap.size + a.size))).map mk).length) ↔ k < ta.length + tb.length := by simp
      by_cases c1 : k < ta.length
      · refine Ev.pos (by omega) (Ev.pos (by omega) (Ev.pos (by omega) ?_))
        have r7 : rd_T33 (ta.map mk ++ [(⟨4, ⟨#[]⟩, (n : Int)⟩ : S33)]) (k : Int) = mk ta[k] := (rd_left (by simp; omega)).trans (rd_map c1)
        have r15 : rd_T33 ((ta.map (sh gap.size) ++ tb.map (sh (2 * gap.size + a.size))).map mk ++ [(⟨4, ⟨#[]⟩, (e : Int)⟩ : S33)]) (k : Int) = mk (sh gap.size ta[k]) := by
          refine (rd_left (h15.mpr (by omega))).trans ((rd_map (by simp; omega)).trans ?_)
          rw [List.getElem_append_left (by simp; omega), List.getElem_map]
        obtain ⟨g1, g2, g3⟩ := ka ta[k] (List.getElem_mem c1)
        refine Ev.step (fun _ => by rw [casementlaw18_LexBlanks.j5]) ?_
        rw [l15, r7, r15, hwk.out]
        refine Ev.neg g1 (Ev.pos (by omega) (Ev.pos (by omega) (Ev.pos rfl (Ev.pos rfl (Ev.pos ?_ inext)))))
        show ta[k].2.2 + ((gap.size : Nat) : Int) = wrap64 (ta[k].2.2 + (gap.size : Int))
        rw [w64 (by omega) (by omega)]
      · refine Ev.neg (by omega) ?_
        have hw2 : Aside0 (wrap64 ((k : Int) - ((ta.length + 1 : Nat) : Int)) = (k : Int) - (ta.length : Int) - 1) := ⟨by rw [w64 (by omega) (by omega)]; omega⟩
        have hw3 : Aside0 (wrap64 ((k : Int) - (ta.length : Int) - 1 + 1) = ((k - ta.length : Nat) : Int)) := ⟨by rw [w64 (by omega) (by omega)]; omega⟩
        have hw4 : Aside0 (wrap64 (2 * (gap.size : Int)) = 2 * (gap.size : Int)) := ⟨w64 (by omega) (by omega)⟩
        have hw5 : Aside0 (wrap64 (2 * (gap.size : Int) + (a.size : Int)) = ((2 * gap.size + a.size : Nat) : Int)) := ⟨by rw [w64 (by omega) (by omega)]; omega⟩
        rw [hw2.out, hw3.out, hw4.out, hw5.out]
        refine Ev.pos (by omega) (Ev.pos (by omega) ?_)
        refine Ev.step (fun _ => by rw [casementlaw18_LexBlanks.j5]) ?_
        by_cases c2 : k < ta.length + tb.length
        · have c3 : k - ta.length < tb.length := by omega
          have r10 : rd_T33 (tb.map mk ++ [(⟨4, ⟨#[]⟩, (m : Int)⟩ : S33)]) ((k - ta.length : Nat) : Int) = mk tb[k - ta.length] := (rd_left (by simp; omega)).trans (rd_map c3)
          have r15 : rd_T33 ((ta.map (sh gap.size) ++ tb.map (sh (2 * gap.size + a.size))).map mk ++ [(⟨4, ⟨#[]⟩, (e : Int)⟩ : S33)]) (k : Int) = mk (sh (2 * gap.size + a.size) tb[k - ta.length]) := by
            refine (rd_left (h15.mpr (by omega))).trans ((rd_map (by simp; omega)).trans ?_)
            rw [List.getElem_append_right (by simp; omega), List.getElem_map]
            simp
          obtain ⟨g1, g2, g3⟩ := kb tb[k - ta.length] (List.getElem_mem c3)
          rw [l15, r10, r15, hwk.out]
          refine Ev.neg g1 (Ev.pos (by omega) (Ev.pos (by omega) (Ev.pos rfl (Ev.pos rfl (Ev.pos ?_ inext)))))
          show tb[k - ta.length].2.2 + ((2 * gap.size + a.size : Nat) : Int) = wrap64 (tb[k - ta.length].2.2 + ((2 * gap.size + a.size : Nat) : Int))
          rw [w64 (by omega) (by omega)]
        · have c3 : k - ta.length = tb.length := by omega
          have r10 : rd_T33 (tb.map mk ++ [(⟨4, ⟨#[]⟩, (m : Int)⟩ : S33)]) ((k - ta.length : Nat) : Int) = ⟨4, ⟨#[]⟩, (m : Int)⟩ := by
            refine (rd_right (by simp; omega)).trans ?_
            rw [List.length_map, c3, Nat.sub_self]; rfl
          have r15 : rd_T33 ((ta.map (sh gap.size) ++ tb.map (sh (2 * gap.size + a.size))).map mk ++ [(⟨4, ⟨#[]⟩, (e : Int)⟩ : S33)]) (k : Int) = ⟨4, ⟨#[]⟩, (e : Int)⟩ := by
            refine (rd_right (by simp; omega)).trans ?_
            have : k - ((ta.map (sh gap.size) ++ tb.map (sh (2 * gap.size + a.size))).map mk).length = 0 := by simp; omega
            rw [this]; rfl
          have hw6 : Aside0 (wrap64 (((2 * gap.size + a.size : Nat) : Int) + (gap.size : Int)) = ((2 * gap.size + a.size + gap.size : Nat) : Int)) := ⟨wadd (by omega)⟩
          have hw7 : Aside0 (wrap64 ((m : Int) + ((2 * gap.size + a.size + gap.size : Nat) : Int)) = ((m + (2 * gap.size + a.size + gap.size) : Nat) : Int)) := ⟨wadd (by omega)⟩
          rw [l15, r10, r15, hwk.out, hw6.out, hw7.out]
          refine Ev.pos rfl (Ev.pos (by omega) (Ev.pos (by omega) (Ev.pos rfl (Ev.pos rfl (Ev.pos ?_ inext)))))
          show (e : Int) = _
          rw [he]; congr 1; omega
    · exact Ev.neg (by omega) (Ev.bind awake_ev (Ev.fin rfl))

theorem app_mk (x y : List UInt8) : (⟨x.toArray⟩ : ByteArray) ++ (⟨y.toArray⟩ : ByteArray) = ⟨(x ++ y).toArray⟩ := by
  apply ByteArray.ext; rw [ByteArray.data_append]; simp

theorem tokens_mk (l : List UInt8) (r : Except (Int × Int) (List T)) (h : (⟨l.toArray⟩ : ByteArray).size ≤ 65536) (e : toks l 0 = r) : Ev (fun k => lex_Tokens.f k ⟨l.toArray⟩) (fin (⟨l.toArray⟩ : ByteArray).size [] r) := by
  have ht := tokens_ev ⟨l.toArray⟩ h
  have hl : (⟨l.toArray⟩ : ByteArray).data.toList = l := by simp
  rw [← e]
  exact hl ▸ ht

theorem blanks_l0 (a b : ByteArray) (x2 : Int) (ta tb : List T) (h0 : 0 ≤ x2) (h1 : x2 ≤ 255) (ha : a.size ≤ 3000) (hb : b.size ≤ 3000) (ea : toks a.data.toList 0 = .ok ta) (eb : toks b.data.toList 0 = .ok tb) :
    ∀ (d j : Nat), 5 - j ≤ d → j ≤ 4 → (j : Int) ≤ Int.tmod x2 5 →
    Ev (fun r => casementlaw18_LexBlanks.l0 r a b x2 (fin a.size [] (.ok ta)).1 (fin b.size [] (.ok tb)).1 ⟨(32 :: List.replicate j 9).toArray⟩ (j : Int)) true := by
  have hm : Int.tmod x2 5 = x2 % 5 := Int.tmod_eq_emod_of_nonneg h0
  rw [hm]
  intro d
  induction d with
  | zero => intro j hd hj; omega
  | succ d ih =>
    intro j hd hj hjm
    refine Ev.step (fun _ => by rw [casementlaw18_LexBlanks.l0]) ?_
    have hw : Aside0 (wrap64 (Int.tmod x2 5) = x2 % 5) := ⟨by rw [hm]; exact w64 (by omega) (by omega)⟩
    have hgs : (⟨(32 :: List.replicate j 9).toArray⟩ : ByteArray).size = j + 1 := by rw [size_mk]; simp
    rw [hw.out]
    by_cases hlt : (j : Int) < x2 % 5
    · have hwj : Aside0 (wrap64 ((j : Int) + 1) = ((j + 1 : Nat) : Int)) := ⟨wadd1 (by omega)⟩
      have happ : (⟨(32 :: List.replicate j 9).toArray⟩ : ByteArray) ++ (⟨#[9]⟩ : ByteArray) = ⟨(32 :: List.replicate (j + 1) 9).toArray⟩ := by
        rw [show (⟨#[9]⟩ : ByteArray) = ⟨([9] : List UInt8).toArray⟩ from rfl, app_mk, List.cons_append, ← List.replicate_succ']
      rw [hwj.out, happ]
      exact Ev.pos hlt (Ev.pos (by omega) (ih (j + 1) (by omega) (by omega) (by omega)))
    · refine Ev.neg hlt ?_
      have hX : ((((⟨(32 :: List.replicate j 9).toArray⟩ : ByteArray) ++ a) ++ ⟨(32 :: List.replicate j 9).toArray⟩) ++ b) ++ ⟨(32 :: List.replicate j 9).toArray⟩ = ⟨((32 :: List.replicate j 9) ++ (a.data.toList ++ ((32 :: List.replicate j 9) ++ (b.data.toList ++ (32 :: List.replicate j 9))))).toArray⟩ := by
        have e1 : a = ⟨a.data.toList.toArray⟩ := by cases a; simp
        have e2 : b = ⟨b.data.toList.toArray⟩ := by cases b; simp
        conv => lhs; rw [e1, e2]
        rw [app_mk, app_mk, app_mk, app_mk]; simp
      have la : a.data.toList.length = a.size := by simp
      have lb : b.data.toList.length = b.size := by simp
      have hXs : (⟨((32 :: List.replicate j 9) ++ (a.data.toList ++ ((32 :: List.replicate j 9) ++ (b.data.toList ++ (32 :: List.replicate j 9))))).toArray⟩ : ByteArray).size = b.size + (2 * (j + 1) + a.size) + (j + 1) := by
        rw [size_mk]; simp only [List.length_append, List.length_cons, List.length_replicate, la, lb]; omega
      have hall : ((32 : UInt8) :: List.replicate j 9).all blankB = true := by simp [blankB]
      have htx := toks_both 32 (List.replicate j 9) a.data.toList b.data.toList ta tb hall ea eb
      rw [List.length_replicate, la] at htx
      have ht := tokens_mk ((32 :: List.replicate j 9) ++ (a.data.toList ++ ((32 :: List.replicate j 9) ++ (b.data.toList ++ (32 :: List.replicate j 9))))) _ (by rw [hXs]; omega) htx
      rw [hX]
      simp only [ByteArray.size_append, hgs]
      have lta := toks_len _ _ _ ta (Nat.le_refl _) ea
      have ltb := toks_len _ _ _ tb (Nat.le_refl _) eb
      rw [la] at lta
      rw [lb] at ltb
      refine Ev.pos (by omega) (Ev.pos (by omega) (Ev.pos (by omega) (Ev.pos (by omega) ?_)))
      refine Ev.bind ht (Ev.pos rfl ?_)
      refine Ev.step (fun _ => by rw [casementlaw18_LexBlanks.j3]) ?_
      have ka := kinds_of a ta 0 (toks_chain a a.size 0 ta (by omega) (by omega) ea)
      have kb := kinds_of b tb 0 (toks_chain b b.size 0 tb (by omega) (by omega) eb)
      have hl := blanks_l1 a ⟨(32 :: List.replicate j 9).toArray⟩ ta tb a.size b.size (b.size + (2 * (j + 1) + a.size) + (j + 1)) ha (by rw [hgs]; omega) ha hb (by omega) (by omega)
        (fun t h => ⟨(ka t h).1, (ka t h).2.1, Int.le_trans (ka t h).2.2 (by omega)⟩) (fun t h => ⟨(kb t h).1, (kb t h).2.1, Int.le_trans (kb t h).2.2 (by omega)⟩) (by rw [hgs]) (ta.length + tb.length + 1) 0 (by omega) (by omega)
      rw [hgs] at hl
      refine Ev.neg ?_ ?_
      · have f1 : (fin a.size [] (.ok ta)).1.length = ta.length + 1 := by simp [fin]
        have f2 : (fin b.size [] (.ok tb)).1.length = tb.length + 1 := by simp [fin]
        rw [f1, f2]
        have f3 : wrap64 (wrap64 (((ta.length + 1 : Nat) : Int) + ((tb.length + 1 : Nat) : Int)) - 1) = ((ta.length + tb.length + 1 : Nat) : Int) := by
          rw [wadd (by omega), w64 (by omega) (by omega)]; omega
        rw [f3]
        clear f3
        simp [fin]
        omega
      · rw [hXs]
        simpa [fin] using hl

theorem LexBlanks : casementlaw18_LexBlanks.Pure := by
  intro a b x2 ha hb hx
  suffices h : Ev (fun r => casementlaw18_LexBlanks.f r a b x2) true from h.rounds
  have hx' : 0 ≤ x2 ∧ x2 ≤ 255 := by
    simp only [Lit.wf, Bool.and_eq_true, decide_eq_true_eq] at hx
    exact hx
  have hyes : Ev (fun r => casementlaw18_LexBlanks.j0 r a b x2 true) true := by
    refine Ev.step (fun _ => by rw [casementlaw18_LexBlanks.j0]) ?_
    exact Ev.pos rfl (Ev.bind awake_ev (Ev.fin rfl))
  have hj1 : ∀ x y, Ev (fun r => casementlaw18_LexBlanks.j1 r a b x2 x y true) true := by
    intro x y
    refine Ev.step (fun _ => by rw [casementlaw18_LexBlanks.j1]) ?_
    exact Ev.pos rfl (Ev.bind awake_ev (Ev.fin rfl))
  unfold casementlaw18_LexBlanks.f
  by_cases h1 : (a.size : Int) > 3000
  · exact Ev.pos h1 hyes
  · refine Ev.neg h1 ?_
    by_cases h2 : (b.size : Int) > 3000
    · rw [decide_eq_true h2]; exact hyes
    · rw [decide_eq_false h2]
      refine Ev.step (fun _ => by rw [casementlaw18_LexBlanks.j0]) ?_
      have t1 := tokens_ev a (by omega)
      have t2 := tokens_ev b (by omega)
      refine Ev.neg (by decide) ?_
      cases e1 : toks a.data.toList 0 with
      | error q =>
        rw [e1] at t1
        have hf := toks_fault _ _ _ q.1 q.2 (Nat.le_refl _) e1
        exact Ev.bind t1 (Ev.bind t2 (Ev.neg hf.2.2 (hj1 _ _)))
      | ok ta =>
        rw [e1] at t1
        refine Ev.bind t1 (Ev.bind t2 (Ev.pos rfl ?_))
        cases e2 : toks b.data.toList 0 with
        | error q =>
          have hf := toks_fault _ _ _ q.1 q.2 (Nat.le_refl _) e2
          have : ((fin b.size [] (Except.error q)).2.2 != 0) = true := by rw [bne_iff_ne]; exact hf.2.2
          rw [this]; exact hj1 _ _
        | ok tb =>
          have : ((fin b.size [] (Except.ok tb)).2.2 != 0) = false := rfl
          rw [this]
          refine Ev.step (fun _ => by rw [casementlaw18_LexBlanks.j1]) ?_
          exact Ev.neg (by decide) (blanks_l0 a b x2 ta tb hx'.1 hx'.2 (by omega) (by omega) e1 e2 5 0 (by omega) (by omega) (by rw [Int.tmod_eq_emod_of_nonneg hx'.1]; omega))
end Go.Proofs.Ythlncjiapjahaaa.Pure
