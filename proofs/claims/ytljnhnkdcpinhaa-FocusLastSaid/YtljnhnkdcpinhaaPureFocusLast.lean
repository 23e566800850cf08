/-
  FocusLast: for every list of things and every list of times the law's function answers true: without modal things the one that was seen last has the focus. No conditions beyond the statement's own.
-/
import Derived.Test.YtljnhnkdcpinhaaFChoose
import Derived.Test.YtljnhnkdcpinhaaQFocusLast
namespace Go.Proofs.Ytljnhnkdcpinhaa.Pure
open Go.RowKit Go.Proofs.Ytljnhnkdcpinhaa.P Go.Proofs.Ytljnhnkdcpinhaa.G Go.Proofs.Ytljnhnkdcpinhaa.E Go.Proofs.Ytljnhnkdcpinhaa.O Go.Proofs.YtljnhnkdcpinhaaW.PrintWords Go.Proofs.YtljnhnkdcpinhaaW.PrintLast
set_option linter.unusedVariables false

def off (x : It) : It := ⟨x.f0, x.f1, x.f2, false, x.f4, x.f5⟩
def offs (l : List It) (i : Nat) : List It := (l.take i).map off ++ l.drop i
theorem offs_len (l : List It) (i : Nat) : (offs l i).length = l.length := by unfold offs; simp; omega
theorem offs_at {l : List It} {i : Nat} (h : i < l.length) : rdI (offs l i) (i : Int) = rdI l (i : Int) := by
  rw [rdI_at (by rw [offs_len]; exact h), rdI_at h]
  unfold offs
  rw [List.getElem_append_right (by simp; omega)]
  simp only [List.length_map, List.length_take, List.getElem_drop]
  congr 1
  omega
theorem offs_set {l : List It} {i : Nat} (h : i < l.length) : (offs l i).set i (off (rdI l (i : Int))) = offs l (i + 1) := by
  unfold offs
  rw [List.set_append_right _ _ (by simp; omega), List.take_succ_eq_append_getElem h, List.map_append, List.append_assoc, rdI_at h]
  congr 1
  rw [List.drop_eq_getElem_cons h]
  have : i - ((l.take i).map off).length = 0 := by simp; omega
  rw [this]; rfl
theorem offs_all (l : List It) : offs l l.length = l.map off := by unfold offs; simp
theorem good_off {l : List It} (g : G.Good l) : G.Good (l.map off) := by
  refine ⟨by rw [List.length_map]; exact g.len, ?_, ?_⟩
  · intro x hx
    obtain ⟨y, hy, rfl⟩ := List.mem_map.1 hx
    exact g.ok y hy
  · rw [List.map_map]; exact g.nd
theorem off_at {l : List It} {i : Nat} (h : i < l.length) : rdI (l.map off) (i : Int) = off (rdI l (i : Int)) := by
  rw [rdI_at (by rw [List.length_map]; exact h), rdI_at h, List.getElem_map]
theorem modV_off {l : List It} (g : G.Good l) (c : Int) : modV (l.map off) c = c := by
  refine ((good_off g).modV c).still ?_
  rcases bst_in (l.map off) c (l.map off).length with h | ⟨b, h1, h2, h3, _⟩
  · exact h
  · rw [List.length_map] at h2
    rw [off_at h2] at h3
    exact absurd h3 (by simp [off])
theorem last_go (l : List It) (seen : List Int) (gd : G.Good l) (hw : ∀ x ∈ l, wfIt x) (h : seen.length = l.length) (h0 : l.length ≠ 0) :
    ∀ (d i : Nat), i + d = l.length → Ev (fun k => casementlaw17_FocusLast.l0 k l seen (offs l i) ((bs seen i : Nat) : Int) (i : Int)) true := by
  have hlen := gd.len
  intro d
  induction d with
  | zero =>
    intro i hi
    obtain rfl : i = l.length := by omega
    have hb := (bs_le seen l.length).2 (by omega)
    have hw' : ∀ x ∈ l.map off, wfIt x := by
      intro x hx
      obtain ⟨y, hy, rfl⟩ := List.mem_map.1 hx
      exact hw y hy
    have hol := offs_len l l.length
    refine Ev.step (fun _ => by rw [casementlaw17_FocusLast.l0]) ?_
    refine Ev.neg (by omega) ?_
    rw [offs_all]
    have hc : chV (l.map off) seen = (rdI l ((bs seen l.length : Nat) : Int)).f0 := by
      rw [chV_pos (good_off gd) (by rw [List.length_map]; exact h) (by rw [List.length_map]; exact h0), List.length_map, modV_off gd, off_at hb]; rfl
    refine Ev.bind (prog_chV (l.map off) seen hw') ?_
    rw [hc]
    refine Ev.pos (by omega) (Ev.pos (by omega) (Ev.pos rfl (Ev.bind (prog_modV (l.map off) hw' _) ?_)))
    rw [modV_off gd]
    exact Ev.pos rfl (Ev.bind awake_ev (Ev.fin rfl))
  | succ d ih =>
    intro i hi
    have hil : i < l.length := by omega
    have hgo := ih (i + 1) (by omega)
    rw [← offs_set hil, bs] at hgo
    have hb := bs_le seen i
    have hol := offs_len l i
    refine Ev.step (fun _ => by rw [casementlaw17_FocusLast.l0]) ?_
    rw [wadd1 (by omega), Int.toNat_natCast, show rd_T35 (offs l i) (i : Int) = rdI l (i : Int) from offs_at hil]
    refine Ev.pos (by omega) (Ev.pos (by omega) (Ev.bind (Ev.fin rfl) (Ev.pos (by omega) (Ev.pos (by omega) (Ev.pos (by omega) ?_)))))
    by_cases hc : rd seen (i : Int) > rd seen ((bs seen i : Nat) : Int)
    · rw [if_pos hc] at hgo; exact Ev.pos hc hgo
    · rw [if_neg hc] at hgo; exact Ev.neg hc hgo
theorem FocusLast : casementlaw17_FocusLast.Pure := by
  intro l seen _ hg _ _
  have hw : ∀ x ∈ l, wfIt x := fun x hx => wf_good (hg x hx)
  have no : Ev (fun k => casementlaw17_FocusLast.j0 k l seen true) true := by
    refine Ev.step (fun _ => by rw [casementlaw17_FocusLast.j0]) ?_
    exact Ev.pos rfl (Ev.bind awake_ev (Ev.fin rfl))
  refine Ev.rounds (g := fun k => casementlaw17_FocusLast.f k l seen) ?_
  unfold casementlaw17_FocusLast.f
  refine Ev.bind (Ev.con (check_f hw)) ?_
  by_cases gd : G.Good l
  · refine Ev.pos ((chkV_zero l).2 gd) ?_
    have hlen := gd.len
    by_cases h : seen.length = l.length
    · refine Ev.pos (by omega) ?_
      by_cases h0 : l.length = 0
      · rw [show ((l.length : Int) == 0) = true by simp [h0]]; exact no
      · rw [show ((l.length : Int) == 0) = false by simpa using h0]
        refine Ev.step (fun _ => by rw [casementlaw17_FocusLast.j0]) ?_
        refine Ev.neg (by decide) (Ev.bind (Ev.fin rfl) (Ev.pos (by simp; omega) ?_))
        exact last_go l seen gd hw h h0 l.length 0 (by omega)
    · exact Ev.neg (by omega) no
  · exact Ev.neg (fun h => gd ((chkV_zero l).1 h)) no
end Go.Proofs.Ytljnhnkdcpinhaa.Pure
