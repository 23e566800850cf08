/-
  The reference's Tokens, behind its texts in quotes, tells the pieces of a text as the plain lists do. Conditions: the text's size.
-/
import Derived.Test.YthlncjiapjahaaaLexRefq
namespace Go.Proofs.Ythlncjiapjahaaa.L
open Go.RowKit Go.Proofs.Ythlncjiapjahaaa.P Go.Proofs.Ythlncjiapjahaaa.E Go.Proofs.YthlncjiapjahaaaW.PrintWords
set_option linter.unusedVariables false
set_option linter.unusedSimpArgs false

/-! ### the reference's Tokens -/
theorem blank_else : ∀ u : UInt8, u ≠ 32 → (((u.toNat : Int)) == 9) = blankB u := all8 (by decide +kernel)
theorem rtok_l1 (s : ByteArray) (hs : s.size ≤ 65536) (acc : List S36) (k : Nat) (res : List S36 × Int × Int) (hacc : acc.length ≤ 65536) :
    ∀ (d m : Nat), s.size - m ≤ d → k ≤ m → m ≤ s.size →
    (Ev (fun r => casementref18_Tokens.l0 r s (acc ++ [(⟨1, s.extract k (m + ((s.data.toList.drop m).takeWhile plainB).length), (k : Int)⟩ : S36)]) ((m + ((s.data.toList.drop m).takeWhile plainB).length : Nat) : Int)) res) →
    Ev (fun r => casementref18_Tokens.l1 r s acc (m : Int) (k : Int)) res := by
  intro d
  induction d with
  | zero =>
    intro m hd hkm hm H
    have e0 : s.data.toList.drop m = [] := List.drop_of_length_le (by have : s.data.toList.length = s.size := (by simp); omega)
    rw [e0] at H
    simp only [List.takeWhile_nil, List.length_nil, Nat.add_zero] at H
    refine Ev.step (fun _ => by rw [casementref18_Tokens.l1]) ?_
    refine Ev.neg (by omega) (Ev.pos (by omega) (Ev.pos (by omega) (Ev.pos (by omega) (Ev.pos (by omega) ?_))))
    simp only [Int.toNat_natCast]
    exact H
  | succ d ih =>
    intro m hd hkm hm H
    refine Ev.step (fun _ => by rw [casementref18_Tokens.l1]) ?_
    cases e : s.data.toList.drop m with
    | nil =>
      rw [e] at H
      have := drop_nil e
      simp only [List.takeWhile_nil, List.length_nil, Nat.add_zero] at H
      refine Ev.neg (by omega) (Ev.pos (by omega) (Ev.pos (by omega) (Ev.pos (by omega) (Ev.pos (by omega) ?_))))
      simp only [Int.toNat_natCast]
      exact H
    | cons u l =>
      obtain ⟨hlt, hb, hdl⟩ := bt_cons e
      refine Ev.pos (by omega) (Ev.pos (by omega) ?_)
      rw [hb, rplain_f]
      refine Ev.bind (Ev.con rfl) ?_
      by_cases hp : plainB u = true
      · have hw1 : wrap64 ((m : Int) + 1) = ((m + 1 : Nat) : Int) := wadd1 (by omega)
        rw [hw1]
        refine Ev.pos hp (ih (m + 1) (by omega) (by omega) (by omega) ?_)
        rw [hdl]
        rw [e, List.takeWhile_cons, if_pos hp] at H
        simp only [List.length_cons] at H
        have e2 : m + ((l.takeWhile plainB).length + 1) = m + 1 + (l.takeWhile plainB).length := by omega
        rw [e2] at H
        exact H
      · rw [e, List.takeWhile_cons, if_neg hp] at H
        simp only [List.length_nil, Nat.add_zero] at H
        refine Ev.neg hp (Ev.pos (by omega) (Ev.pos (by omega) (Ev.pos (by omega) (Ev.pos (by omega) ?_))))
        simp only [Int.toNat_natCast]
        exact H

set_option maxHeartbeats 2000000 in
theorem rtok_l0 (s : ByteArray) (hs : s.size ≤ 65536) : ∀ (d k : Nat) (acc : List S36), s.size - k ≤ d → k ≤ s.size → acc.length ≤ k →
    Ev (fun r => casementref18_Tokens.l0 r s acc (k : Int)) (finR s.size acc (toks (s.data.toList.drop k) k)) := by
  intro d
  induction d with
  | zero =>
    intro k acc hd hk ha
    have e0 : s.data.toList.drop k = [] := List.drop_of_length_le (by have : s.data.toList.length = s.size := (by simp); omega)
    refine Ev.step (fun _ => by rw [casementref18_Tokens.l0]) ?_
    refine Ev.neg (by omega) (Ev.pos (by omega) (Ev.fin ?_))
    rw [e0, toks]; simp [finR]
  | succ d ih =>
    intro k acc hd hk ha
    refine Ev.step (fun _ => by rw [casementref18_Tokens.l0]) ?_
    cases e : s.data.toList.drop k with
    | nil =>
      have := drop_nil e
      refine Ev.neg (by omega) (Ev.pos (by omega) (Ev.fin ?_))
      rw [toks]; simp [finR]
    | cons u l =>
      obtain ⟨hlt, hb, hdl⟩ := bt_cons e
      have hll : l.length = s.size - (k + 1) := by rw [← hdl, drop_len]
      have hw1 : wrap64 ((k : Int) + 1) = ((k + 1 : Nat) : Int) := wadd1 (by omega)
      refine Ev.pos (by omega) (Ev.pos (by omega) ?_)
      rw [hb]
      -- both ways to the same point
      have hj : ∀ b : Bool, b = blankB u → Ev (fun r => casementref18_Tokens.j1 r s acc (k : Int) b) (finR s.size acc (toks (u :: l) k)) := by
        intro b hbb
        subst hbb
        refine Ev.step (fun _ => by rw [casementref18_Tokens.j1]) ?_
        rw [hb, hw1, toks]
        by_cases h1 : blankB u = true
        · rw [if_pos h1]
          refine Ev.pos h1 ?_
          rw [← hdl]
          exact ih (k + 1) acc (by omega) (by omega) (by omega)
        · rw [if_neg h1]
          refine Ev.neg h1 (Ev.pos (by omega) (Ev.pos (by omega) ?_))
          rw [rsign_f]
          refine Ev.bind (Ev.con rfl) ?_
          by_cases h3 : signB u = true
          · have h2 : u ≠ 34 := ((apart_f u).2 h3).1
            rw [if_neg h2, if_pos h3, finR_map]
            refine Ev.pos h3 (Ev.pos (by omega) (Ev.pos (by omega) (Ev.pos (by omega) ?_)))
            have hm : (⟨3, s.extract (k : Int).toNat (((k + 1 : Nat) : Int)).toNat, (k : Int)⟩ : S36) = mkR (3, [u], (k : Int)) := by
              have e1 : (k : Int).toNat = k := by simp
              have e2 : (((k + 1 : Nat) : Int)).toNat = k + 1 := by simp
              rw [e1, e2, ext_take, e]; simp [mkR]
            rw [hm, ← hdl]
            exact ih (k + 1) _ (by omega) (by omega) (by simp; omega)
          · refine Ev.neg h3 ?_
            by_cases h2 : u = 34
            · rw [if_pos h2]
              refine Ev.pos (by subst h2; rfl) ?_
              have hq := rq_f s hs k u l e
              have sh := quotedL_shape l.length l [] 1 (Nat.le_refl _)
              by_cases h4 : (quotedL l [] 1).2.2 = 0
              · rw [if_pos h4, finR_map]
                have h5 : (1 : Int) + 1 ≤ (quotedL l [] 1).2.1 ∧ (quotedL l [] 1).2.1 ≤ 1 + (l.length : Int) := by
                  rcases sh with ⟨_, a, b⟩ | ⟨a, _⟩ | ⟨a, _⟩
                  · exact ⟨a, b⟩
                  · omega
                  · omega
                have hqn : (quotedL l [] 1).2.1 = ((qn l : Nat) : Int) := by unfold qn; omega
                rw [hqn] at h5
                have h6 : 2 ≤ qn l ∧ qn l ≤ 1 + l.length := by omega
                clear h5
                have hq2 : refq k (quotedL l [] 1) = (⟨(quotedL l [] 1).1.toArray⟩, ((k + qn l : Nat) : Int), 0, 0) := by
                  unfold refq
                  rw [if_pos h4, hqn]; congr 2
                rw [hq2] at hq
                refine Ev.bind hq (Ev.pos rfl (Ev.pos (by omega) ?_))
                clear sh hqn hq hq2
                have h7 : k + 1 + (qn l - 1) = k + qn l := by omega
                have hdd : l.drop (qn l - 1) = s.data.toList.drop (k + qn l) := by
                  have h8 := congrArg (List.drop (qn l - 1)) hdl
                  rw [List.drop_drop, h7] at h8
                  exact h8.symm
                rw [hdd]
                exact ih (k + qn l) _ (by omega) (by omega) (by simp; omega)
              · rw [if_neg h4]
                have hq2 : refq k (quotedL l [] 1) = (⟨#[]⟩, 0, (quotedL l [] 1).2.2, (k : Int) + (quotedL l [] 1).2.1) := by
                  unfold refq
                  rw [if_neg h4]
                rw [hq2] at hq
                exact Ev.bind hq (Ev.neg h4 (Ev.fin rfl))
            · rw [if_neg h2, if_neg h3]
              refine Ev.neg (fun h => h2 ((u8_eq (v := 34)).mp h)) ?_
              rw [rplain_f]
              refine Ev.bind (Ev.con rfl) ?_
              by_cases h4 : plainB u = true
              · rw [if_pos h4, finR_map]
                refine Ev.pos h4 ?_
                have hwl : (l.takeWhile plainB).length ≤ l.length := by
                  have h1 := List.takeWhile_append_dropWhile (p := plainB) (l := l)
                  have h2 := congrArg List.length h1
                  rw [List.length_append] at h2
                  omega
                have htw : (s.data.toList.drop k).takeWhile plainB = u :: l.takeWhile plainB := by rw [e, List.takeWhile_cons, if_pos h4]
                refine rtok_l1 s hs acc k _ (by omega) s.size k (by omega) (by omega) (by omega) ?_
                rw [htw]
                simp only [List.length_cons]
                have e3 : k + ((l.takeWhile plainB).length + 1) = k + 1 + (l.takeWhile plainB).length := by omega
                rw [e3]
                have hm : (⟨1, s.extract k (k + 1 + (l.takeWhile plainB).length), (k : Int)⟩ : S36) = mkR (1, u :: l.takeWhile plainB, (k : Int)) := by
                  rw [ext_take, e]
                  have e1 : k + 1 + (l.takeWhile plainB).length - k = (l.takeWhile plainB).length + 1 := by omega
                  rw [e1, List.take_succ_cons]
                  rw [take_tw]; rfl
                rw [hm]
                have hdd : l.dropWhile plainB = s.data.toList.drop (k + 1 + (l.takeWhile plainB).length) := by
                  rw [← List.drop_drop, hdl, drop_tw]
                rw [hdd]
                exact ih _ _ (by omega) (by omega) (by simp; omega)
              · rw [if_neg h4]
                exact Ev.neg h4 (Ev.fin rfl)
      by_cases h0 : u = 32
      · refine Ev.pos (by subst h0; rfl) (hj true (by subst h0; rfl))
      · refine Ev.neg (fun h => h0 ((u8_eq (v := 32)).mp h)) (hj _ ?_)
        exact blank_else u h0

theorem rtokens_ev (s : ByteArray) (hs : s.size ≤ 65536) : Ev (fun r => casementref18_Tokens.f r s) (finR s.size [] (toks s.data.toList 0)) := by
  unfold casementref18_Tokens.f
  refine Ev.neg (by omega) ?_
  exact rtok_l0 s hs s.size 0 [] (by omega) (by omega) (by simp)
theorem rtokens_long (s : ByteArray) (hs : ¬ s.size ≤ 65536) : Ev (fun r => casementref18_Tokens.f r s) ([], 0, 2) := by
  unfold casementref18_Tokens.f
  exact Ev.pos (by omega) (Ev.fin rfl)

/-! ### the same pieces -/
theorem same_l0 (l : List T) (n : Int) (hl : l.length < 4611686018427387904) : ∀ (d k : Nat), l.length - k ≤ d → k ≤ l.length →
    Ev (fun r => casementlaw18_same.l0 r (l.map mk) (l.map mkR) (k : Int)) true := by
  intro d
  induction d with
  | zero =>
    intro k hd hk
    refine Ev.step (fun _ => by rw [casementlaw18_same.l0]) ?_
    exact Ev.neg (by rw [List.length_map]; omega) (Ev.fin rfl)
  | succ d ih =>
    intro k hd hk
    refine Ev.step (fun _ => by rw [casementlaw18_same.l0]) ?_
    rw [List.length_map, List.length_map]
    by_cases hlt : k < l.length
    · have hr : rd_T33 (l.map mk) (k : Int) = mk l[k] := by
        unfold rd_T33
        rw [Int.toNat_natCast, List.getD_eq_getElem?_getD, List.getElem?_map, List.getElem?_eq_getElem hlt]; rfl
      have hr2 : rd_T36 (l.map mkR) (k : Int) = mkR l[k] := by
        unfold rd_T36
        rw [Int.toNat_natCast, List.getD_eq_getElem?_getD, List.getElem?_map, List.getElem?_eq_getElem hlt]; rfl
      rw [hr, hr2]
      have hw1 : wrap64 ((k : Int) + 1) = ((k + 1 : Nat) : Int) := wadd1 (by omega)
      rw [hw1]
      exact Ev.pos (by omega) (Ev.pos (by omega) (Ev.pos (by omega) (Ev.pos rfl (Ev.pos rfl (Ev.pos rfl (ih (k + 1) (by omega) (by omega)))))))
    · exact Ev.neg (by omega) (Ev.fin rfl)
theorem same_ev (l : List T) (n : Int) (hl : l.length < 4611686018427387904) : Ev (fun r => casementlaw18_same.f r (l.map mk) (l.map mkR)) true := by
  unfold casementlaw18_same.f
  exact Ev.pos (by rw [List.length_map, List.length_map]) (same_l0 l n hl l.length 0 (by omega) (by omega))

theorem toks_len : ∀ (n : Nat) (l : List UInt8) (i : Nat) (ts : List T), l.length ≤ n → toks l i = .ok ts → ts.length ≤ l.length := by
  intro n
  induction n with
  | zero =>
    intro l i ts h e
    obtain rfl : l = [] := by cases l; rfl; simp at h
    rw [toks] at e; injection e with e; subst e; simp
  | succ n ih =>
    intro l i ts h e
    cases l with
    | nil => rw [toks] at e; injection e with e; subst e; simp
    | cons c l =>
      simp only [List.length_cons] at h ⊢
      have key : ∀ (m : List UInt8) (j : Nat) (t : T), m.length ≤ l.length → (toks m j).map (t :: ·) = .ok ts → ts.length ≤ l.length + 1 := by
        intro m j t hm e
        cases hr : toks m j with
        | error p => rw [hr] at e; simp [Except.map] at e
        | ok us =>
          rw [hr] at e; simp only [Except.map, Except.ok.injEq] at e; subst e
          have := ih m j us (by omega) hr
          simp; omega
      rw [toks] at e
      split at e
      · have := ih l _ ts (by omega) e; omega
      · split at e
        · split at e
          · exact key _ _ _ (by simp) e
          · exact absurd e (by simp)
        · split at e
          · exact key _ _ _ (Nat.le_refl _) e
          · split at e
            · refine key _ _ _ ?_ e
              have h1 := List.takeWhile_append_dropWhile (p := plainB) (l := l)
              have h2 := congrArg List.length h1
              rw [List.length_append] at h2
              omega
            · exact absurd e (by simp)

/-- both tell the same pieces -/
theorem same_toks (s : ByteArray) (hs : s.size ≤ 65536) : Ev (fun r => casementlaw18_same.f r (fin s.size [] (toks s.data.toList 0)).1 (finR s.size [] (toks s.data.toList 0)).1) true := by
  cases e : toks s.data.toList 0 with
  | error p => exact same_ev [] 0 (by simp)
  | ok ts =>
    have hl := toks_len _ _ _ ts (Nat.le_refl _) e
    have h2 : s.data.toList.length = s.size := by simp
    have := same_ev (ts ++ [(4, [], (s.size : Int))]) 0 (by simp; omega)
    simp only [List.map_append] at this
    exact this
theorem fin_place (n : Nat) (acc : List S33) (acc' : List S36) (r : Except (Int × Int) (List T)) : (fin n acc r).2.1 = (finR n acc' r).2.1 ∧ (fin n acc r).2.2 = (finR n acc' r).2.2 := by
  cases r <;> exact ⟨rfl, rfl⟩

/-! ### the chapter's example -/
theorem awake_ev : Ev (fun r => casementlaw18_awake.f r) true := by
  unfold casementlaw18_awake.f
  have h := tokens_ev (⟨#[97, 61, 34, 98, 32, 92, 34, 99, 34, 59, 100]⟩ : ByteArray) (by decide)
  have ht : toks (⟨#[97, 61, 34, 98, 32, 92, 34, 99, 34, 59, 100]⟩ : ByteArray).data.toList 0 = .ok [(1, [97], 0), (3, [61], 1), (2, [98, 32, 34, 99], 2), (3, [59], 9), (1, [100], 10)] := by
    simp +decide [toks, blankB, signB, plainB, quotedL, qn, Except.map]
  rw [ht] at h
  refine Ev.bind h (Ev.pos rfl (Ev.pos rfl ?_))
  refine Ev.bind (same_ev [(1, [97], 0), (3, [61], 1), (2, [98, 32, 34, 99], 2), (3, [59], 9), (1, [100], 10), (4, [], 11)] 0 (by decide)) (Ev.fin rfl)
end Go.Proofs.Ythlncjiapjahaaa.L
