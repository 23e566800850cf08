/-
  OrderSound: for every list of things the law's function answers true. No conditions beyond the statement's own.
-/
import Derived.Test.YtplchdlcolepmaaOAt
import Derived.Test.YtplchdlcolepmaaQOrderSound
namespace Go.Proofs.Ytplchdlcolepmaa.Pure
open Go.RowKit Go.Proofs.Ytplchdlcolepmaa.P Go.Proofs.Ytplchdlcolepmaa.G Go.Proofs.Ytplchdlcolepmaa.E Go.Proofs.Ytplchdlcolepmaa.O Go.Proofs.YtplchdlcolepmaaW.PrintWords Go.Proofs.YtplchdlcolepmaaW.PrintLast
set_option linter.unusedVariables false

theorem sound_go (l : List It) (gd : G.Good l) (s : List Nat) (hp : s.Perm (List.range l.length)) (ho : IsOrd l [] s) : ∀ (d m : Nat) (last : Int), m + d = s.length → (∀ hm : m < s.length, last ≤ Bd l s[m]) →
    Ev (fun k => casementlaw16_OrderSound.l0 k l (s.map (cl l)) (ownS l) (bdS l) last (m : Int)) true := by
  obtain ⟨hsl, hnd, hs, hall⟩ := perm_parts hp
  have hl := gd.len
  have hlo := ownS_len l
  have hlb := bdS_len l
  have hla : (s.map (cl l)).length = s.length := by simp
  intro d
  induction d with
  | zero =>
    intro m last hm _
    refine Ev.step (fun _ => by rw [casementlaw16_OrderSound.l0]) ?_
    exact Ev.neg (by omega) (Ev.bind awake_ev (Ev.fin rfl))
  | succ d ih =>
    intro m last hm hlast
    have hms : m < s.length := by omega
    have hx := hs _ (List.getElem_mem hms)
    have hge := hlast hms
    have hrd : rd (s.map (cl l)) (m : Int) = cl l s[m] := rd_cl hms
    have hb : rd (bdS l) ((s[m] : Nat) : Int) = Bd l s[m] := rd_bdS hx
    have hgb := gd.Bd_ge hx
    have hnext : Ev (fun k => casementlaw16_OrderSound.l0 k l (s.map (cl l)) (ownS l) (bdS l) (rd (bdS l) ((s[m] : Nat) : Int)) (wrap64 ((m : Int) + 1))) true := by
      rw [wadd1 (by omega), hb]
      exact ih (m + 1) _ (by omega) (fun hm1 => gd.ord_bands hs ho hm1)
    refine Ev.step (fun _ => by rw [casementlaw16_OrderSound.l0]) ?_
    refine Ev.pos (by omega) (Ev.pos (by omega) ?_)
    rw [hrd]
    refine Ev.bind (gd.place hx) (Ev.neg (by omega) (Ev.bind (gd.where_ hs hnd (by omega) hms) (Ev.pos rfl (Ev.pos (by omega) (Ev.pos (by omega) ?_)))))
    refine Ev.neg (by rw [hb]; omega) (Ev.pos (by omega) ?_)
    refine Ev.step (fun _ => by rw [casementlaw16_OrderSound.j2]) ?_
    refine Ev.neg (by rw [hb, decide_eq_true_eq]; exact fun h => absurd h (Int.not_lt.mpr hgb)) (Ev.pos (by omega) (Ev.pos (by omega) (Ev.pos (by omega) ?_)))
    cases e : Gr l s[m] with
    | none => exact Ev.pos (ownS_none hx e) hnext
    | some j =>
      obtain ⟨q1, q2, q3, q4⟩ := gd.ownS_some hx e
      obtain ⟨p, hpm, hpe⟩ := ord_owner ho hms e
      have hw : Ev (fun k => casementlaw16_where.f k (s.map (cl l)) (rd (ownS l) ((s[m] : Nat) : Int))) (p : Int) := by
        rw [q2, ← hpe]
        exact gd.where_ hs hnd (by omega) (by omega)
      exact Ev.neg q3 (Ev.bind hw (Ev.neg (by omega) (Ev.bind hw (Ev.neg (by omega) hnext))))
theorem OrderSound : casementlaw16_OrderSound.Pure := by
  intro l _ hg
  have hw : ∀ x ∈ l, wfIt x := fun x hx => wf_good (hg x hx)
  refine Ev.rounds (g := fun k => casementlaw16_OrderSound.f k l) ?_
  unfold casementlaw16_OrderSound.f
  rcases order_f hw with ⟨gd, s, h1, h2, h3⟩ | ⟨hn, h1⟩
  · obtain ⟨hsl, hnd, hs, hall⟩ := perm_parts h2
    refine Ev.bind (Ev.con h1) (Ev.pos rfl (Ev.bind (Ev.con (owners_f hw)) (Ev.bind (Ev.con (bands_f hw)) ?_)))
    unfold ownV bdV
    rw [if_pos gd, if_pos gd]
    have hlo := ownS_len l
    have hlb := bdS_len l
    refine Ev.pos (by show ((s.map (cl l)).length : Int) = _; rw [List.length_map, hsl]) (Ev.pos (by rw [hlo]) ?_)
    refine Ev.step (fun _ => by rw [casementlaw16_OrderSound.j0]) ?_
    refine Ev.neg (by rw [hlb]; simp) ?_
    refine sound_go l gd s h2 h3 s.length 0 0 (by omega) (fun hm => ?_)
    have hx := hs _ (List.getElem_mem hm)
    have := gd.Bd_ge hx
    have := (gd.okAt hx).2.1
    omega
  · refine Ev.bind (Ev.con h1) (Ev.neg (fun e => hn ((chkV_zero l).1 e)) (Ev.pos rfl (Ev.bind awake_ev (Ev.fin rfl))))
end Go.Proofs.Ytplchdlcolepmaa.Pure
