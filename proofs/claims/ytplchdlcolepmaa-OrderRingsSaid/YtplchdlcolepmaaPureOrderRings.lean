/-
  OrderRings: for every list of things the law's function answers true. No conditions beyond the statement's own.
-/
import Derived.Test.YtplchdlcolepmaaOAwake
import Derived.Test.YtplchdlcolepmaaQOrderRings
namespace Go.Proofs.Ytplchdlcolepmaa.Pure
open Go.RowKit Go.Proofs.Ytplchdlcolepmaa.P Go.Proofs.Ytplchdlcolepmaa.G Go.Proofs.Ytplchdlcolepmaa.E Go.Proofs.Ytplchdlcolepmaa.O Go.Proofs.YtplchdlcolepmaaW.PrintWords Go.Proofs.YtplchdlcolepmaaW.PrintLast
set_option linter.unusedVariables false

/-- the walk up from a thing comes to its end, and then goes on -/
theorem rings_up (l : List It) (gd : G.Good l) {i : Nat} (hi : i < l.length) (hnext : Ev (fun k => casementlaw16_OrderRings.l0 k l (ownS l) (wrap64 ((i : Int) + 1))) true) :
    ∀ (f k n : Nat), k < l.length → it (Gr l) f k = none → n + f ≤ l.length → Ev (fun q => casementlaw16_OrderRings.l1 q l (ownS l) (i : Int) (k : Int) (n : Int)) true := by
  have hl := gd.len
  have hlo := ownS_len l
  intro f
  induction f with
  | zero => intro k n _ h _; rw [it_zero] at h; cases h
  | succ f ih =>
    intro k n hk h hn
    rw [it_succ'] at h
    refine Ev.step (fun _ => by rw [casementlaw16_OrderRings.l1]) ?_
    refine Ev.pos (by omega) (Ev.pos (by rw [hlo]; omega) ?_)
    cases e : Gr l k with
    | none =>
      refine Ev.pos (ownS_none hk e) ?_
      refine Ev.step (fun _ => by rw [casementlaw16_OrderRings.j2]) ?_
      refine Ev.neg (by decide) (Ev.neg (by omega) (Ev.pos (by omega) (Ev.pos (by rw [hlo]; omega) ?_)))
      cases e2 : Gr l i with
      | none => exact Ev.pos (ownS_none hi e2) hnext
      | some j =>
        obtain ⟨q1, q2, q3, q4⟩ := gd.ownS_some hi e2
        exact Ev.neg q3 (Ev.pos (by omega) (Ev.pos q1 hnext))
    | some j =>
      rw [e, Option.bind_some] at h
      have hj := Gr_lt k j e
      obtain ⟨q1, q2, q3, q4⟩ := gd.ownS_some hk e
      refine Ev.neg q3 ?_
      refine Ev.step (fun _ => by rw [casementlaw16_OrderRings.j2]) ?_
      have hp := gd.place hj
      rw [q2]
      refine Ev.pos (by rw [decide_eq_true_eq]; omega) (Ev.pos (by omega) (Ev.pos (by rw [hlo]; omega) (Ev.bind hp (Ev.neg (by omega) ?_))))
      rw [wadd1 (by omega)]
      exact ih j (n + 1) hj h (by omega)
theorem rings_all (l : List It) (gd : G.Good l) : ∀ (d i : Nat), i + d = l.length → Ev (fun q => casementlaw16_OrderRings.l0 q l (ownS l) (i : Int)) true := by
  have hl := gd.len
  have hlo := ownS_len l
  intro d
  induction d with
  | zero =>
    intro i hi
    refine Ev.step (fun _ => by rw [casementlaw16_OrderRings.l0]) ?_
    exact Ev.neg (by rw [hlo]; omega) (Ev.bind awake_ev (Ev.fin rfl))
  | succ d ih =>
    intro i hi
    have hil : i < l.length := by omega
    refine Ev.step (fun _ => by rw [casementlaw16_OrderRings.l0]) ?_
    refine Ev.pos (by rw [hlo]; omega) ?_
    refine rings_up l gd hil ?_ l.length i 0 hil (gd.ends hil) (by omega)
    rw [wadd1 (by omega)]
    exact ih (i + 1) (by omega)
theorem OrderRings : casementlaw16_OrderRings.Pure := by
  intro l _ hg
  have hw : ∀ x ∈ l, wfIt x := fun x hx => wf_good (hg x hx)
  refine Ev.rounds (g := fun k => casementlaw16_OrderRings.f k l) ?_
  unfold casementlaw16_OrderRings.f
  refine Ev.bind (Ev.con (owners_f hw)) (Ev.bind (Ev.con (check_f hw)) ?_)
  by_cases h : G.Good l
  · refine Ev.pos ((chkV_zero l).2 h) ?_
    unfold ownV
    rw [if_pos h]
    exact rings_all l h l.length 0 (by omega)
  · refine Ev.neg (fun e => h ((chkV_zero l).1 e)) (Ev.pos ?_ (Ev.bind awake_ev (Ev.fin rfl)))
    unfold ownV
    rw [if_neg h]; rfl
end Go.Proofs.Ytplchdlcolepmaa.Pure
