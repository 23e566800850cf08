/-
  OrderTells: for every list of things the law's function answers true. No conditions beyond the statement's own.
-/
import Derived.Test.YtplchdlcolepmaaOAt
import Derived.Test.YtplchdlcolepmaaQOrderTells
namespace Go.Proofs.Ytplchdlcolepmaa.Pure
open Go.RowKit Go.Proofs.Ytplchdlcolepmaa.P Go.Proofs.Ytplchdlcolepmaa.G Go.Proofs.Ytplchdlcolepmaa.E Go.Proofs.Ytplchdlcolepmaa.O Go.Proofs.YtplchdlcolepmaaW.PrintWords Go.Proofs.YtplchdlcolepmaaW.PrintLast
set_option linter.unusedVariables false

theorem lower_at {l : List It} (i b : Nat) (hi : i < l.length) (hb : b < l.length) : casementref16_lower.f (rdI l (i : Int)).f0 (rdI l (i : Int)).f1 (rdI l (i : Int)).f2 (rdI l (i : Int)).f3 (rdI l (i : Int)).f4 (rdI l (i : Int)).f5 (rdI l (b : Int)).f0 (rdI l (b : Int)).f1 (rdI l (b : Int)).f2 (rdI l (b : Int)).f3 (rdI l (b : Int)).f4 (rdI l (b : Int)).f5 (rd (bdS l) (i : Int)) (rd (bdS l) (b : Int)) = some true ∧ kLt l i b ∨ casementref16_lower.f (rdI l (i : Int)).f0 (rdI l (i : Int)).f1 (rdI l (i : Int)).f2 (rdI l (i : Int)).f3 (rdI l (i : Int)).f4 (rdI l (i : Int)).f5 (rdI l (b : Int)).f0 (rdI l (b : Int)).f1 (rdI l (b : Int)).f2 (rdI l (b : Int)).f3 (rdI l (b : Int)).f4 (rdI l (b : Int)).f5 (rd (bdS l) (i : Int)) (rd (bdS l) (b : Int)) = some false ∧ ¬ kLt l i b := by
  rw [rd_bdS hi, rd_bdS hb]
  unfold casementref16_lower.f kLt cl
  rw [ref_younger]
  by_cases h1 : Bd l i = Bd l b
  · rw [if_pos h1]
    by_cases h2 : (rdI l (i : Int)).f4 = (rdI l (b : Int)).f4
    · rw [if_pos h2, Option.bind_some]
      cases hy : youngB (rdI l (b : Int)) (rdI l (i : Int)) with
      | true => rw [youngB_iff] at hy; left; exact ⟨rfl, by omega⟩
      | false => rw [youngB_not] at hy; right; exact ⟨rfl, by omega⟩
    · rw [if_neg h2]
      by_cases h3 : (rdI l (i : Int)).f4 < (rdI l (b : Int)).f4
      · left; exact ⟨by rw [decide_eq_true h3], by omega⟩
      · right; exact ⟨by rw [decide_eq_false h3], by omega⟩
  · rw [if_neg h1]
    by_cases h3 : Bd l i < Bd l b
    · left; exact ⟨by rw [decide_eq_true h3], by omega⟩
    · right; exact ⟨by rw [decide_eq_false h3], by omega⟩

/-- what was found best so far -/
def Best (l : List It) (dn : List Nat) (i : Nat) : Option Nat → Prop
  | none => ∀ j, j < i → j ∉ dn → ¬ Fr l dn j
  | some b => b < i ∧ b ∉ dn ∧ Fr l dn b ∧ ∀ j, j < i → j ∉ dn → Fr l dn j → j ≠ b → kLt l b j
def doneB (l : List It) (dn : List Nat) : List Bool := (List.range l.length).map fun i => decide (i ∈ dn)
theorem doneB_len (l : List It) (dn : List Nat) : (doneB l dn).length = l.length := by simp [doneB]
theorem doneB_at {l : List It} {dn : List Nat} {i : Nat} (hi : i < l.length) : rdOf false (doneB l dn) (i : Int) = decide (i ∈ dn) := by
  unfold rdOf doneB
  rw [Int.toNat_natCast, List.getD_eq_getElem?_getD, List.getElem?_map, List.getElem?_range hi]; rfl
theorem doneB_set {l : List It} {dn : List Nat} {b : Nat} (hb : b < l.length) : (doneB l dn).set b true = doneB l (dn ++ [b]) := by
  apply List.ext_getElem
  · simp [doneB]
  · intro i h1 h2
    rw [List.getElem_set]
    unfold doneB
    simp only [List.getElem_map, List.getElem_range]
    by_cases h : b = i
    · subst h; simp
    · rw [if_neg h]
      have : ¬ i = b := fun e => h e.symm
      simp [this]
theorem best_in (l : List It) (gd : G.Good l) (dn : List Nat) (hd : ∀ j ∈ dn, j < l.length) (out : List Int) (x8 : Int) (hout : out.length < 17592186044416) (x : Nat) (hx : x < l.length) (hxd : x ∉ dn) (hxf : Fr l dn x)
    (hmin : ∀ j, j < l.length → j ∉ dn → Fr l dn j → j ≠ x → kLt l x j) (R : List Int × Int)
    (hnext : Ev (fun k => casementref16_Order.l0 k l (ownS l) (bdS l) (doneB l (dn ++ [x])) (out ++ [cl l x]) (wrap64 (x8 + 1))) R) :
    ∀ (d i : Nat) (o : Option Nat), i + d = l.length → Best l dn i o → Ev (fun k => casementref16_Order.l1 k l (ownS l) (bdS l) (doneB l dn) out x8 (oI o) (i : Int)) R := by
  have hl := gd.len
  have hlo := ownS_len l
  have hlb := bdS_len l
  have hld := doneB_len l dn
  intro d
  induction d with
  | zero =>
    intro i o hi hB
    have hin : i = l.length := by omega
    refine Ev.step (fun _ => by rw [casementref16_Order.l1]) ?_
    refine Ev.neg (by omega) ?_
    cases o with
    | none => exact absurd hxf (hB x (by omega) hxd)
    | some b =>
      obtain ⟨h1, h2, h3, h4⟩ := hB
      have hbx : b = x := by
        by_cases h : b = x
        · exact h
        · have q1 := h4 x (by omega) hxd hxf (fun e => h e.symm)
          have q2 := hmin b (by omega) h2 h3 h
          exact absurd q1 (kLt_asymm q2)
      subst hbx
      show Ev (fun k => if 0 ≤ (b : Int) then _ else _) R
      refine Ev.pos (by omega) (Ev.pos (by show (b : Int) < _; omega) (Ev.pos (by show (b : Int) < _; omega) (Ev.pos hout ?_)))
      show Ev (fun k => casementref16_Order.l0 k l (ownS l) (bdS l) ((doneB l dn).set ((b : Int)).toNat true) (out ++ [(rdI l (b : Int)).f0]) (wrap64 (x8 + 1))) R
      rw [Int.toNat_natCast, doneB_set hx]
      exact hnext
  | succ d ih =>
    intro i o hi hB
    have hil : i < l.length := by omega
    have hgo : ∀ o', Best l dn (i + 1) o' → Ev (fun k => casementref16_Order.l1 k l (ownS l) (bdS l) (doneB l dn) out x8 (oI o') (wrap64 ((i : Int) + 1))) R := by
      intro o' h
      rw [wadd1 (by omega)]
      exact ih (i + 1) o' (by omega) h
    -- it is not to be taken
    have hskip : (i ∈ dn ∨ ¬ Fr l dn i) → Ev (fun k => casementref16_Order.l1 k l (ownS l) (bdS l) (doneB l dn) out x8 (oI o) (wrap64 ((i : Int) + 1))) R := by
      intro hs
      refine hgo o ?_
      cases o with
      | none =>
        intro j hj hjd hjf
        rcases Nat.lt_or_ge j i with h | h
        · exact hB j h hjd hjf
        · obtain rfl : j = i := by omega
          rcases hs with hs | hs
          · exact hjd hs
          · exact hs hjf
      | some b =>
        obtain ⟨h1, h2, h3, h4⟩ := hB
        refine ⟨by omega, h2, h3, ?_⟩
        intro j hj hjd hjf hjb
        rcases Nat.lt_or_ge j i with h | h
        · exact h4 j h hjd hjf hjb
        · obtain rfl : j = i := by omega
          rcases hs with hs | hs
          · exact absurd hs hjd
          · exact absurd hjf hs
    -- it may be taken
    have htake : i ∉ dn → Fr l dn i → Ev (fun k => if oI o < 0 then casementref16_Order.l1 k l (ownS l) (bdS l) (doneB l dn) out x8 (i : Int) (wrap64 ((i : Int) + 1)) else (if 0 ≤ oI o then (if oI o < (l.length : Int) then (if (i : Int) < ((bdS l).length : Int) then (if oI o < ((bdS l).length : Int) then ((casementref16_lower.f (rdI l (i : Int)).f0 (rdI l (i : Int)).f1 (rdI l (i : Int)).f2 (rdI l (i : Int)).f3 (rdI l (i : Int)).f4 (rdI l (i : Int)).f5 (rdI l (oI o)).f0 (rdI l (oI o)).f1 (rdI l (oI o)).f2 (rdI l (oI o)).f3 (rdI l (oI o)).f4 (rdI l (oI o)).f5 (rd (bdS l) (i : Int)) (rd (bdS l) (oI o))).bind fun t => (if t = true then (casementref16_Order.l1 k l (ownS l) (bdS l) (doneB l dn) out x8 (i : Int) (wrap64 ((i : Int) + 1))) else (casementref16_Order.l1 k l (ownS l) (bdS l) (doneB l dn) out x8 (oI o) (wrap64 ((i : Int) + 1))))) else (none)) else (none)) else (none)) else (none))) R := by
      intro hid hif
      cases o with
      | none =>
        refine Ev.pos (by decide) ?_
        refine hgo (some i) ⟨by omega, hid, hif, ?_⟩
        intro j hj hjd hjf hji
        exact absurd hjf (hB j (by omega) hjd)
      | some b =>
        obtain ⟨h1, h2, h3, h4⟩ := hB
        refine Ev.neg (by show ¬ (b : Int) < 0; omega) (Ev.pos (by show 0 ≤ (b : Int); omega) (Ev.pos (by show (b : Int) < _; omega) (Ev.pos (by omega) (Ev.pos (by show (b : Int) < _; omega) ?_))))
        rcases lower_at i b hil (by omega) with ⟨q1, q2⟩ | ⟨q1, q2⟩
        · refine Ev.bind (Ev.con q1) (Ev.pos rfl (hgo (some i) ⟨by omega, hid, hif, ?_⟩))
          intro j hj hjd hjf hji
          by_cases hjb : j = b
          · rw [hjb]; exact q2
          · have := h4 j (by omega) hjd hjf hjb
            unfold kLt cl at *; omega
        · refine Ev.bind (Ev.con q1) (Ev.neg (by decide) (hgo (some b) ⟨by omega, h2, h3, ?_⟩))
          intro j hj hjd hjf hjb
          rcases Nat.lt_or_ge j i with h | h
          · exact h4 j h hjd hjf hjb
          · obtain rfl : j = i := by omega
            rcases gd.kLt_tot hil (by omega) hjb with h | h
            · exact absurd h q2
            · exact h
    refine Ev.step (fun _ => by rw [casementref16_Order.l1]) ?_
    refine Ev.pos (by omega) (Ev.pos (by omega) (Ev.pos (by omega) ?_))
    cases e : Gr l i with
    | none =>
      have hif : Fr l dn i := fun j hj => by rw [e] at hj; cases hj
      refine Ev.pos (ownS_none hil e) (Ev.pos (by omega) ?_)
      by_cases hid : i ∈ dn
      · exact Ev.pos (by rw [doneB_at hil]; exact decide_eq_true hid) (hskip (.inl hid))
      · exact Ev.neg (by rw [doneB_at hil, decide_eq_true_eq]; exact hid) (htake hid hif)
    | some j =>
      have hj := Gr_lt i j e
      obtain ⟨w1, w2, w3, w4⟩ := gd.ownS_some hil e
      refine Ev.neg w3 ?_
      rw [w2]
      refine Ev.bind (gd.place hj) (Ev.pos (by omega) (Ev.pos (by omega) (Ev.pos (by omega) ?_)))
      by_cases hid : i ∈ dn
      · exact Ev.pos (by rw [doneB_at hil]; exact decide_eq_true hid) (hskip (.inl hid))
      · refine Ev.neg (by rw [doneB_at hil, decide_eq_true_eq]; exact hid) ?_
        by_cases hjd : j ∈ dn
        · exact Ev.pos (by rw [doneB_at hj]; exact decide_eq_true hjd) (htake hid (fun j' hj' => by rw [e] at hj'; obtain rfl := Option.some.inj hj'; exact hjd))
        · exact Ev.neg (by rw [doneB_at hj, decide_eq_true_eq]; exact hjd) (hskip (.inr (fun hf => hjd (hf j e))))
theorem ref_order_go (l : List It) (gd : G.Good l) : ∀ (s dn : List Nat), (∀ j ∈ dn, j < l.length) → (∀ j ∈ s, j < l.length) → (∀ j ∈ s, j ∉ dn) → s.Nodup → (∀ j, j < l.length → j ∈ dn ∨ j ∈ s) → dn.length + s.length = l.length → IsOrd l dn s →
    Ev (fun k => casementref16_Order.l0 k l (ownS l) (bdS l) (doneB l dn) (dn.map (cl l)) (dn.length : Int)) ((dn ++ s).map (cl l), 0) := by
  have hl := gd.len
  intro s
  induction s with
  | nil =>
    intro dn _ _ _ _ _ hlen _
    refine Ev.step (fun _ => by rw [casementref16_Order.l0]) ?_
    refine Ev.neg (by simp at hlen; omega) (Ev.fin (by rw [List.append_nil]))
  | cons x b ih =>
    intro dn hd hs hn hnd hall hlen ho
    obtain ⟨h1, h2, h3⟩ := ho
    have hx := hs x (by simp)
    simp only [List.length_cons] at hlen
    refine Ev.step (fun _ => by rw [casementref16_Order.l0]) ?_
    refine Ev.pos (by omega) ?_
    have hgo := ih (dn ++ [x]) (by intro j hj; rcases List.mem_append.mp hj with hj | hj; exact hd j hj; simp at hj; rw [hj]; exact hx) (fun j hj => hs j (by simp [hj]))
      (by
        intro j hj hm
        rcases List.mem_append.mp hm with hm | hm
        · exact hn j (by simp [hj]) hm
        · simp at hm; subst hm; exact (List.nodup_cons.mp hnd).1 hj) (List.nodup_cons.mp hnd).2
      (by
        intro j hj
        rcases hall j hj with h | h
        · exact .inl (by simp [h])
        · rcases List.mem_cons.mp h with h | h
          · exact .inl (by simp [h])
          · exact .inr h) (by simp; omega) h3
    rw [List.length_append, List.map_append, List.append_assoc] at hgo
    refine best_in l gd dn hd (dn.map (cl l)) (dn.length : Int) (by rw [List.length_map]; omega) x hx (hn x (by simp)) h1 ?_ _ ?_ l.length 0 none (by omega) (fun j hj => by omega)
    · intro j hj hjd hjf hjx
      rcases hall j hj with h | h
      · exact absurd h hjd
      · rcases List.mem_cons.mp h with h | h
        · exact absurd h hjx
        · exact h2 j h hjf
    · rw [wadd1 (by omega)]
      exact hgo
theorem ref_order (l : List It) (gd : G.Good l) (s : List Nat) (hp : s.Perm (List.range l.length)) (ho : IsOrd l [] s) : Ev (fun k => casementref16_Order.f k l) (s.map (cl l), 0) := by
  obtain ⟨hsl, hnd, hs, hall⟩ := perm_parts hp
  have hl := gd.len
  unfold casementref16_Order.f
  refine Ev.bind (ref_check l) (Ev.pos ((chkV_zero l).2 gd) (Ev.bind (ref_owners l) (Ev.bind (ref_bands l) (Ev.pos (by omega) (Ev.pos (by omega) ?_)))))
  unfold ownV bdV
  rw [if_pos gd, if_pos gd]
  have h0 : List.replicate ((l.length : Int)).toNat false = doneB l [] := by
    rw [Int.toNat_natCast]
    unfold doneB
    apply List.ext_getElem
    · simp
    · intro i h1 h2; simp
  rw [h0]
  exact ref_order_go l gd s [] (by simp) hs (by simp) hnd (fun j hj => by obtain ⟨m, hm, e⟩ := hall j hj; exact .inr (e ▸ List.getElem_mem hm)) (by simp; omega) ho
theorem OrderTells : casementlaw16_OrderTells.Pure := by
  intro l _ hg
  have hw : ∀ x ∈ l, wfIt x := fun x hx => wf_good (hg x hx)
  refine Ev.rounds (g := fun k => casementlaw16_OrderTells.f k l) ?_
  unfold casementlaw16_OrderTells.f
  rcases order_f hw with ⟨gd, s, h1, h2, h3⟩ | ⟨hn, h1⟩
  · obtain ⟨hsl, _, _, _⟩ := perm_parts h2
    have hl := gd.len
    refine Ev.bind (Ev.con h1) (Ev.bind (ref_order l gd s h2 h3) ?_)
    exact Ev.bind (ints_same _ (by rw [List.length_map]; omega)) (Ev.pos rfl (Ev.pos rfl (Ev.bind awake_ev (Ev.fin rfl))))
  · have hr : Ev (fun k => casementref16_Order.f k l) (([] : List Int), chkV l) := by
      unfold casementref16_Order.f
      exact Ev.bind (ref_check l) (Ev.neg (fun e => hn ((chkV_zero l).1 e)) (Ev.bind (ref_check l) (Ev.fin rfl)))
    refine Ev.bind (Ev.con h1) (Ev.bind hr ?_)
    exact Ev.bind (ints_same _ (by simp)) (Ev.pos rfl (Ev.pos rfl (Ev.bind awake_ev (Ev.fin rfl))))
end Go.Proofs.Ytplchdlcolepmaa.Pure
