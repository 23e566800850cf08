/-
  A region that draws its order, walked by what holds of every set of its operations that may have come up: a law beside the guide's walks. Conditions: an operation waits for earlier ones alone.
-/
import Derived.Test.YtplchdlcolepmaaProg
import Derived.Orders
import Derived.WalkKit
import Derived.KernelRfl
namespace Go.Proofs.Ytplchdlcolepmaa.M
open Go
set_option linter.unusedVariables false

/-- each operation waits for earlier ones alone -/
def waitsBack (md : Region.Mode) (ops : Array Oper) : Bool := (List.range ops.size).all fun i => ((ops[i]?).map fun o => o.after.all fun e => !Region.binds md e || decide (e.on < i)).getD true
theorem ready_mem {md : Region.Mode} {ops : Array Oper} {L : Array Bool} {i : Nat} : i ∈ Region.ready md ops L ↔ i < ops.size ∧ L.getD i true = false ∧ ((ops[i]?).map fun o => o.after.all fun e => !Region.binds md e || L.getD e.on false).getD false = true := by
  unfold Region.ready
  rw [List.mem_filter, List.mem_range, Bool.and_eq_true]
  simp only [Bool.not_eq_true']
theorem ready_nil {md : Region.Mode} {ops : Array Oper} {L : Array Bool} (hb : waitsBack md ops = true) (hs : L.size = ops.size) (h : Region.ready md ops L = []) : ∀ i, i < ops.size → L.getD i false = true := by
  intro i
  induction i using Nat.strongRecOn with
  | _ i ih =>
    intro hi
    cases hL : L.getD i false with
    | true => rfl
    | false =>
      exfalso
      have hm : i ∈ Region.ready md ops L := by
        rw [ready_mem]
        refine ⟨hi, ?_, ?_⟩
        · simp [show i < L.size by omega] at hL ⊢; exact hL
        · have h1 := List.all_eq_true.mp hb i (List.mem_range.mpr hi)
          rw [Array.getElem?_eq_getElem hi] at h1 ⊢
          simp only [Option.map_some, Option.getD_some] at h1 ⊢
          rw [Array.all_eq_true] at h1 ⊢
          intro j hj
          have h2 := h1 j hj
          rw [Bool.or_eq_true] at h2 ⊢
          rcases h2 with h2 | h2
          · exact .inl h2
          · have h3 := of_decide_eq_true h2
            exact .inr (ih _ h3 (by omega))
      rw [h] at hm
      cases hm
theorem wpAny_inv {P : Program} {md : Region.Mode} {ops : Array Oper} {Q : Exit → Act → World → Prop} (Inv : Array Bool → Act → World → Prop) (hb : waitsBack md ops = true) (hsz : ∀ L a w, Inv L a w → L.size = ops.size)
    (hdone : ∀ L a w, Inv L a w → (∀ i, i < ops.size → L.getD i false = true) → Q .normal a w)
    (hstep : ∀ L a w, Inv L a w → ∀ i, i < ops.size → L.getD i true = false → ((ops[i]?).map fun o => o.after.all fun e => !Region.binds md e || L.getD e.on false).getD false = true → wpOp P ops Q i (Inv (L.setIfInBounds i true)) a w) :
    ∀ (fuel : Nat) (L : Array Bool) (a : Act) (w : World), Inv L a w → L.toList.countP (fun b => !b) ≤ fuel → wpAny P md ops Q fuel L a w := by
  intro fuel
  induction fuel with
  | zero =>
    intro L a w hI hc
    have hr : Region.ready md ops L = [] := by
      cases h : Region.ready md ops L with
      | nil => rfl
      | cons i r =>
        exfalso
        have hm : i ∈ Region.ready md ops L := by rw [h]; simp
        obtain ⟨h1, h2, _⟩ := ready_mem.mp hm
        have hs := hsz _ _ _ hI
        have hi : i < L.size := by omega
        have h3 : L[i] = false := by simpa [hi] using h2
        have hc0 : L.toList.countP (fun b => !b) = 0 := by omega
        rw [List.countP_eq_zero] at hc0
        have := hc0 L[i] (by simp)
        rw [h3] at this
        exact this rfl
    exact ⟨hr, hdone _ _ _ hI (ready_nil hb (hsz _ _ _ hI) hr)⟩
  | succ fuel ih =>
    intro L a w hI hc
    refine ⟨fun hr => hdone _ _ _ hI (ready_nil hb (hsz _ _ _ hI) hr), fun i hi => ?_⟩
    obtain ⟨h1, h2, h3⟩ := ready_mem.mp hi
    have hs := hsz _ _ _ hI
    have hiL : i < L.size := by omega
    have h4 : L[i] = false := by simpa [hiL] using h2
    have hcs : (L.setIfInBounds i true).toList.countP (fun b => !b) ≤ fuel := by
      rw [Array.toList_setIfInBounds, List.countP_set (by simpa using hiL)]
      have : L.toList[i]'(by simpa using hiL) = false := by simpa using h4
      simp only [this, Bool.not_false, Bool.not_true, if_true, Bool.false_eq_true, if_false]
      omega
    exact wpOp_mono (fun a' w' h => ih _ a' w' h hcs) (hstep L a w hI i h1 h2 h3)
theorem wp_region_inv {P : Program} {ops : Array Oper} {Q : Exit → Act → World → Prop} {id : Nat} {a : Act} {w : World} (Inv : Array Bool → Act → World → Prop) (hm : P.follows .mixedOrders = true) (hb : waitsBack .any ops = true) (hsz : ∀ L a w, Inv L a w → L.size = ops.size)
    (h0 : Inv (Array.replicate ops.size false) a w.drew)
    (hdone : ∀ L a w, Inv L a w → (∀ i, i < ops.size → L.getD i false = true) → Q .normal a w)
    (hstep : ∀ L a w, Inv L a w → ∀ i, i < ops.size → L.getD i true = false → ((ops[i]?).map fun o => o.after.all fun e => !Region.binds .any e || L.getD e.on false).getD false = true → wpOp P ops Q i (Inv (L.setIfInBounds i true)) a w) :
    (Code.region id ops true).wp P Q a w :=
  wp_region_any hm (wpAny_inv Inv hb hsz hdone hstep _ _ _ _ h0 (Nat.le_trans List.countP_le_length (by simp)))
theorem dep_at {md : Region.Mode} {ops : Array Oper} {L : Array Bool} {i : Nat} {o : Oper} (h : ((ops[i]?).map fun o => o.after.all fun e => !Region.binds md e || L.getD e.on false).getD false = true) (ho : ops[i]? = some o) (k : Nat) {e : Edge} (he : o.after[k]? = some e) (hb : Region.binds md e = true) : L.getD e.on false = true := by
  rw [ho] at h
  simp only [Option.map_some, Option.getD_some] at h
  rw [Array.all_eq_true] at h
  obtain ⟨hk, hek⟩ := Array.getElem?_eq_some_iff.mp he
  have := h k hk
  rw [hek, hb] at this
  simpa using this
theorem getD_set_other {L : Array Bool} {i j : Nat} (h : j ≠ i) : (L.setIfInBounds i true).getD j false = L.getD j false := by
  rw [Array.getD_eq_getD_getElem?, Array.getD_eq_getD_getElem?, Array.getElem?_setIfInBounds_ne (by omega)]
theorem getD_false {L : Array Bool} {i : Nat} (h : L.getD i true = false) (hi : i < L.size) : L.getD i false = false := by simp [hi] at h ⊢; exact h
/-- one operation, written out -/
theorem wpOp_at {P : Program} {ops : Array Oper} {Q : Exit → Act → World → Prop} {i : Nat} {K : Act → World → Prop} {a : Act} {w : World} (o : Oper) (ho : ops[i]? = some o) (hw : Region.wanted o (yielded ops a.tmps) = true) (h : ∀ K' : Act → World → Prop, (∀ a w, K a w → K' a w) → o.wp P a w K' Q) : wpOp P ops Q i K a w := by
  unfold wpOp
  simp only [ho, hw, if_true]
  exact .inl (h K (fun _ _ h => h))
end Go.Proofs.Ytplchdlcolepmaa.M
