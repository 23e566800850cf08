/-
  What the given program's order.places, order.around and order.Owners compute: contracts of their calls over this seat's translation. Conditions: the items' numbers are of 64 bits.
-/
import Derived.Test.YtplchdlcolepmaaExtCheck
import Derived.Test.YtplchdlcolepmaaPx2
import Derived.StillTailTactics
namespace Go.Proofs.Ytplchdlcolepmaa.P
open Go.RowKit Go.Maps Go.Proofs.Ytplchdlcolepmaa.M Go.Proofs.YtplchdlcolepmaaW.PrintWords Go.Proofs.YtplchdlcolepmaaW.PrintLast
set_option linter.unusedVariables false
set_option linter.unusedSimpArgs false

/-! ### order.places -/
def plM (l : List It) : Nat → Int → Option Int
  | 0, _ => none
  | k + 1, c => if c = (rd_T38 l (k : Int)).f0 then some (k : Int) else plM l k c

set_option maxHeartbeats 2000000 in
set_option maxRecDepth 100000 in
theorem places_any (A0 : Option Addr) (c0 : Nat) (l0 : List It) (w : World) (hr0 : Kd.C k38 w A0 l0.length l0) (hw : ∀ x ∈ l0, wfIt x) (hlen : l0.length ≤ 9223372036854775807) :
    Calls Try.prog 21 #[.slice A0 l0.length c0] w fun e w' => e = .returned (.map (some w.heap.size)) ∧ MapIs w' w.heap.size l0.length (plM l0 l0.length) ∧ Below w.heap.size w w' := by
  have hmm := @run_makeMap Try.prog
  have HC := Lib.hid hr0
  have HW := Lib.hid hw
  clear hr0 hw
  go_enter Try.func21, Try.ntmps21
  go_wp2
  go_loopw [9] (fun i wr => ∃ k : Nat, i = .int .i64 k ∧ k ≤ l0.length ∧ MapIs wr w.heap.size k (plM l0 k) ∧ Below w.heap.size w wr) (fun i _ => l0.length + 1 - (intOf i).toNat)
  case atStart => exact ⟨0, rfl, by omega, MapIs.made w, (Below.refl _ w).alloc (Nat.le_refl _) _⟩
  case round =>
    obtain ⟨k, rfl, hk, HS, hB⟩ := hrel
    have hsz := hB.size
    clear hmm
    cases e : l0.drop k with
    | nil =>
      have hlt : l0.length ≤ k := by simpa using e
      obtain rfl : l0.length = k := by omega
      clear e HC HW
      have HM := Lib.hid HS
      clear HS
      go_wp2
      go_ret
      exact ⟨rfl, HM.out, hB⟩
    | cons x m =>
      obtain ⟨hrd, hlt, hdr⟩ := rd_drop e
      obtain ⟨ad, rfl, g0, g1, g2, g3, g4, g5⟩ := item_at (Kd.C_below HC.out hB) e
      have hb : (ad.add (k * 6)).block < wr.heap.size := World.block_lt_of_cell? _ _ g0
      have hwx := HW.out x (by rw [← List.take_append_drop k l0, e]; simp)
      obtain ⟨D, hown, hD⟩ := HS
      obtain ⟨f0, f1, f2, f3, f4, f5⟩ := x
      have hk0 := hkey (c := f0) hwx.1
      have HRD := Lib.hid hrd
      have HD := Lib.hid hD
      have HK := Lib.hid hk0
      clear e hrd hD hk0 hwx hdr
      simp only at g0 g1 g2 g3 g4 g5
      go_wp2_with (at_mapUpdate; refine wpList_mapUpdate_own _ rfl _ _ _ 41 rfl 3 3 law3 Try.underlying41 _ w.heap.size k _ rfl (hown.alloc _) (by unfold maxLen; omega) _ _ _ rfl rfl HK.out _ [] (plainElem_int Try.underlying3 (i64_of (by omega) (by omega))) ?_; intro w1 hown1 hgrow1)
      go_roundw
      case rel =>
        refine ⟨k + 1, by go_num, by omega, (MapIs.put hown.isMap HD.out f0 (k : Int) hown1).congr (fun c _ => ?_), ?_⟩
        · simp only [plM]; rw [HRD.out]
        · exact (hB.alloc hsz _).grown hgrow1 (by have := (hB.alloc hsz (.cells #[.int .i64 f0, .int .i64 f1, .int .i64 f2, .bool f3, .int .i64 f4, .int .i64 f5] 38)).size; exact this) (fun j hj => by cases hj; exact Nat.le_refl _)
      case measure => simp [intOf]; omega

/-! ### order.around -/
def aroundL (m : Int → Option Int) (os : List Int) (start : Int) : Nat → Int → List Int → List Int
  | 0, _, _ => []
  | f + 1, k, ring =>
    if rd os k = 0 then []
    else if (os.length : Int) < (ring.length : Int) then []
    else if (m (rd os k)).getD 0 = start then ring
    else aroundL m os start f ((m (rd os k)).getD 0) (ring ++ [(m (rd os k)).getD 0])
/-- who is named stands in the map, at a place -/
def Named (m : Int → Option Int) (os : List Int) : Prop := ∀ k : Int, 0 ≤ k → k < os.length → rd os k ≠ 0 → I64 (rd os k) ∧ ∃ j : Int, m (rd os k) = some j ∧ 0 ≤ j ∧ j < os.length
theorem MapIs.below {w w' : World} {B n : Nat} {m : Int → Option Int} (h : MapIs w B n m) (hb : Below w.heap.size w w') : MapIs w' B n m := by
  obtain ⟨D, ho, h2⟩ := h
  refine ⟨D, ?_, h2⟩
  obtain ⟨es, clock, hbm, r⟩ := ho
  exact ⟨es, clock, (hb.block _ (Array.getElem?_eq_some_iff.1 hbm).1).trans hbm, r⟩

set_option maxHeartbeats 4000000 in
set_option maxRecDepth 100000 in
theorem around_any (B n : Nat) (m : Int → Option Int) (A1 : Option Addr) (c1 : Nat) (os : List Int) (start : Int) (w : World) (hm : MapIs w B n m) (hr1 : Kd.C (Kd.int .i64) w A1 os.length os) (hn : Named m os) (hlen : os.length ≤ 128)
    (h0 : 0 ≤ start) (h1 : start < os.length) :
    Calls Try.prog 22 #[.map (some B), .slice A1 os.length c1, .int .i64 start] w fun e w' => ∃ v : Value, e = .returned v ∧ Kd.R (Kd.int .i64) 3 w' w.heap.size (fun _ => True) v (aroundL m os start (os.length + 2) start [start]) ∧ Below w.heap.size w w' := by
  generalize hR : aroundL m os start (os.length + 2) start [start] = R
  have HR := Lib.hid hR
  have HM := Lib.hid hm
  have HC := Lib.hid hr1
  have HN := Lib.hid hn
  clear hR hm hr1 hn
  have HB := Aside0.mk (Below.refl w.heap.size w)
  go_enter Try.func22, Try.ntmps22
  go_wp2_with ((with_reducible refine gate_dst (N := 10) rfl ?_); (try (refine gate_guard (by rfl) ?_; dsimp only)); refine Kd.R_lit (Kd.int .i64) _ 3 ?hg (N := 10) ?hd (xs := [start]) (inner := [.int .i64 start]) (ok := fun _ => True) (okp := fun _ => True) ?hr ?hp (fun _ hk => hk) trivial (Below.refl _ _) (Nat.le_refl _) (by simp) ?_; (case hd => rfl); (case hg => rfl); (case hr => first | (go_simp; done) | (go_simp; rfl)); (case hp => exact (Reps.one (show Kd.M (Kd.int .i64) _ _ _ start [.int .i64 start] from rfl) (Reps.none _ _))); intro v0 w1 ho hb hg_ hnew_)
  have hRform := Kd.R_slice ho
  clear hg_ hnew_
  have HO := Lib.hid ho
  have HB1 := Lib.hid hb
  clear ho hb HB
  go_loopg [7, 8] (os.length + 2) (fun kq v7 v8 wr => ∃ (k : Int) (ring : List Int), v8 = .int .i64 k ∧ 0 ≤ k ∧ k < os.length ∧ ring.length + kq = os.length + 3 ∧ ring.length ≤ os.length + 1 ∧ Hid (aroundL m os start kq k ring = R) ∧ Hid (Kd.R (Kd.int .i64) 3 wr w.heap.size (fun _ => True) v7 ring) ∧ Hid (Below w.heap.size w wr))
  case atStart => exact ⟨start, [start], rfl, h0, h1, by simp; omega, by simp, HR, HO, HB1⟩
  case round =>
    clear HO HB1 hRform HR
    obtain ⟨k, ring, rfl, hk0, hk1, hlen2, hlen3, HA, HO, HB⟩ := hrel
    cases gk with
    | zero => exact absurd hlen2 (by omega)
    | succ k1 =>
      obtain ⟨A7, c7, rfl⟩ := Kd.R_slice HO.out
      have hrd := ReadsOf.at_ (Kd.reads_of_C (d := (0 : Int)) (Kd.C_below HC.out HB.out)) k hk0 hk1
      obtain ⟨ad, hA1, hcell0⟩ := hrd
      subst hA1
      have hcell : wr.cell? (ad.add k.toNat) = some (.int .i64 (rd os k)) := hcell0
      have hA := HA.out
      have hnm := HN.out k hk0 hk1
      rw [aroundL] at hA
      clear hcell0 HA
      generalize rd os k = o at hcell hA hnm
      by_cases hz : o = 0
      · rw [if_pos hz] at hA
        subst hA
        subst hz
        clear hnm
        go_wp2
        go_ret
        exact ⟨_, rfl, Kd.R_nil _ _ _ _ _, HB.out⟩
      · have hzb : (o != 0) = true := by rw [bne_iff_ne]; exact hz
        rw [if_neg hz] at hA
        obtain ⟨hwo, j, hj, hj0, hj1⟩ := hnm hz
        clear hnm
        rw [hj, Option.getD_some] at hA
        by_cases hlt : (os.length : Int) < (ring.length : Int)
        · rw [if_pos hlt] at hA
          subst hA
          have hleb : decide (ring.length ≤ os.length) = false := by simp; omega
          clear hj hz hwo
          go_wp2
          go_ret
          exact ⟨_, rfl, Kd.R_nil _ _ _ _ _, HB.out⟩
        · rw [if_neg hlt] at hA
          have hleb : decide (ring.length ≤ os.length) = true := by simp; omega
          obtain ⟨D, hown, hD⟩ := MapIs.below HM.out HB.out
          have hD1 := (hD o hwo).2
          rw [hj, Option.getD_some] at hD1
          have HK := Lib.hid (hkey hwo)
          have HD1 := Lib.hid hD1
          clear hD hD1 hj hz hwo
          by_cases hs : j = start
          · rw [if_pos hs] at hA
            have HA := Lib.hid hA
            subst hs
            clear hA
            go_wp2_with (at_lookup; refine wpList_lookup_own_int _ rfl _ _ 41 rfl 3 3 .i64 law3 Try.underlying41 Try.underlying3 (zero3 _) B n _ rfl hown _ _ rfl HK.out ?_; intro c hat hwc; obtain rfl : j = c := (by have h_ := HD1.out.symm.trans hat; injection h_ with h_; injection h_); clear hat hwc)
            go_ret
            exact ⟨_, rfl, HA.out ▸ HO.out, HB.out⟩
          · rw [if_neg hs] at hA
            have HA := Lib.hid hA
            have hsb : (j == start) = false := by rw [beq_eq_false_iff_ne]; exact hs
            clear hA hs
            go_wp2_with (first
              | (at_lookup; refine wpList_lookup_own_int _ rfl _ _ 41 rfl 3 3 .i64 law3 Try.underlying41 Try.underlying3 (zero3 _) B n _ rfl hown _ _ rfl HK.out ?_; intro c hat hwc; obtain rfl : j = c := (by have h_ := HD1.out.symm.trans hat; injection h_ with h_; injection h_); clear hat hwc)
              | (at_builtin; refine Kd.R_append (Kd.int .i64) (w0 := w) w.heap.size rfl (.tmp 34) (.tmp 36) 27 3 (.int .i64 0) 8 rfl Try.underlying27 info3 rfl (by decide) (by omega) _ ring j [.int .i64 j] (fun _ => True) (fun _ => False) rfl rfl ?aP (fun _ hk => hk.elim) ?aF ?aO ?aB ?aS ?aL ?_; (case aP => exact rfl); (case aF => exact (fun _ _ => trivial)); (case aO => exact HO.out); (case aB => exact HB.out); (case aS => exact HB.out.size); (case aL => omega); intro v129 w38 ho hb hg hat))
            go_roundg k1
            case measure => omega
            case rel => exact ⟨j, ring ++ [j], rfl, hj0, hj1, by simp; omega, by simp; omega, HA, Lib.hid ho, Lib.hid hb⟩

/-! ### order.younger -/
def youngB (a b : It) : Bool := decide (a.f5 > b.f5) || (a.f5 == b.f5 && decide (a.f0 > b.f0))
theorem cmp_f (a b : Int) : cmp_Compare_int.f a b = some (if a < b then -1 else if a > b then 1 else 0) := by
  unfold cmp_Compare_int.f cmp_isNaN_int.f
  simp
  (repeat' split) <;> rfl
theorem or2_f (a b : Int) : cmp_Or_int.f 3 [a, b] = some (if a = 0 then b else a) := by
  unfold cmp_Or_int.f
  by_cases h : a = 0
  · by_cases h2 : b = 0
    · simp [cmp_Or_int.l0, rd, h, h2, wrap64]
    · simp [cmp_Or_int.l0, rd, h, h2, wrap64]
  · simp [cmp_Or_int.l0, rd, h]
theorem younger_f (a b : It) : order_younger.f 3 a.f0 a.f1 a.f2 a.f3 a.f4 a.f5 b.f0 b.f1 b.f2 b.f3 b.f4 b.f5 = some (youngB a b) := by
  unfold order_younger.f
  rw [cmp_f, cmp_f, Option.bind_some, Option.bind_some, or2_f, Option.bind_some]
  congr 1
  unfold youngB
  rw [Bool.eq_iff_iff]
  simp only [decide_eq_true_eq, Bool.or_eq_true, Bool.and_eq_true, beq_iff_eq]
  split <;> split <;> (try split) <;> (try split) <;> omega
theorem younger_any (a b : It) (w : World) :
    Calls Try.prog 23 #[.agg #[.int .i64 a.f0, .int .i64 a.f1, .int .i64 a.f2, .bool a.f3, .int .i64 a.f4, .int .i64 a.f5], .agg #[.int .i64 b.f0, .int .i64 b.f1, .int .i64 b.f2, .bool b.f3, .int .i64 b.f4, .int .i64 b.f5]] w fun e w' => e = .returned (.bool (youngB a b)) ∧ Below w.heap.size w w' :=
  order_younger.calls 3 _ _ _ _ _ _ _ _ _ _ _ _ (youngB a b) w (younger_f a b)

/-! ### order.Owners -/
abbrev rdI (l : List It) (i : Int) : It := rd_T38 l i
def own0 (l : List It) : List Int := l.map fun x => if (plM l l.length x.f2).isSome ∧ x.f2 ≠ x.f0 then x.f2 else 0
def cutOf (l : List It) (ring : List Int) : Int := ring.foldl (fun cut k => if youngB (rdI l k) (rdI l cut) then k else cut) (rd ring 0)
def stepL (l : List It) (os : List Int) (i : Int) : List Int :=
  if aroundL (plM l l.length) os i (os.length + 2) i [i] = [] then os else os.set (cutOf l (aroundL (plM l l.length) os i (os.length + 2) i [i])).toNat 0
def stepsL (l : List It) : Nat → List Int
  | 0 => own0 l
  | k + 1 => stepL l (stepsL l k) (k : Int)
def ownersL (l : List It) : List Int := stepsL l l.length

theorem stepL_len (l : List It) (os : List Int) (i : Int) : (stepL l os i).length = os.length := by unfold stepL; split <;> simp
theorem stepsL_len (l : List It) (k : Nat) : (stepsL l k).length = l.length := by
  induction k with
  | zero => simp [stepsL, own0]
  | succ k ih => rw [stepsL, stepL_len, ih]
theorem plM_some (l : List It) : ∀ (k : Nat) (c j : Int), plM l k c = some j → 0 ≤ j ∧ j < k ∧ (rdI l j).f0 = c := by
  intro k
  induction k with
  | zero => intro c j h; simp [plM] at h
  | succ k ih =>
    intro c j h
    simp only [plM] at h
    split at h
    · rename_i e; injection h with h; subst h; exact ⟨by omega, by omega, e.symm⟩
    · have := ih c j h; omega
theorem rd_set (os : List Int) (j : Nat) (k : Int) (h0 : 0 ≤ k) : rd (os.set j 0) k = if j = k.toNat then 0 else rd os k := by
  unfold rd
  rw [List.getD_eq_getElem?_getD, List.getD_eq_getElem?_getD, List.getElem?_set]
  by_cases h : j = k.toNat
  · rw [if_pos h, if_pos h]
    split
    · rfl
    · simp
  · rw [if_neg h, if_neg h]
theorem Named.set {m : Int → Option Int} {os : List Int} (h : Named m os) (j : Nat) : Named m (os.set j 0) := by
  intro k h0 h1 hne
  rw [List.length_set] at h1 ⊢
  rw [rd_set os j k h0] at hne ⊢
  split at hne
  · exact absurd rfl hne
  · rename_i e
    rw [if_neg e]
    exact h k h0 h1 hne
theorem rd_map_at (l : List It) (f : It → Int) (k : Int) (h0 : 0 ≤ k) (h1 : k < l.length) : rd (l.map f) k = f (rdI l k) := by
  unfold rd rdI rd_T38
  have h2 : k.toNat < l.length := by omega
  rw [List.getD_eq_getElem?_getD, List.getD_eq_getElem?_getD, List.getElem?_map, List.getElem?_eq_getElem h2]
  rfl
theorem rdI_mem (l : List It) (k : Int) (h0 : 0 ≤ k) (h1 : k < l.length) : rdI l k ∈ l := by
  unfold rdI rd_T38
  have h2 : k.toNat < l.length := by omega
  rw [List.getD_eq_getElem?_getD, List.getElem?_eq_getElem h2]
  exact List.getElem_mem h2
theorem named_own0 (l : List It) (hw : ∀ x ∈ l, wfIt x) : Named (plM l l.length) (own0 l) := by
  intro k h0 h1 hne
  have hl : (own0 l).length = l.length := by simp [own0]
  rw [hl] at h1 ⊢
  unfold own0 at hne ⊢
  rw [rd_map_at l _ k h0 h1] at hne ⊢
  split at hne
  · rename_i e
    rw [if_pos e]
    refine ⟨(hw _ (rdI_mem l k h0 h1)).2.2.1, ?_⟩
    obtain ⟨j, hj⟩ := Option.isSome_iff_exists.mp e.1
    have := plM_some l _ _ _ hj
    exact ⟨j, hj, this.1, this.2.1⟩
  · exact absurd rfl hne
theorem named_steps (l : List It) (hw : ∀ x ∈ l, wfIt x) (k : Nat) : Named (plM l l.length) (stepsL l k) := by
  induction k with
  | zero => exact named_own0 l hw
  | succ k ih => rw [stepsL]; unfold stepL; split; exact ih; exact ih.set _
theorem aroundL_mem (m : Int → Option Int) (os : List Int) (start : Int) (hn : Named m os) : ∀ (f : Nat) (k : Int) (ring : List Int), 0 ≤ k → k < os.length → (∀ x ∈ ring, 0 ≤ x ∧ x < os.length) → ∀ x ∈ aroundL m os start f k ring, 0 ≤ x ∧ x < os.length := by
  intro f
  induction f with
  | zero => intro k ring _ _ _ x hx; simp [aroundL] at hx
  | succ f ih =>
    intro k ring h0 h1 hr x hx
    rw [aroundL] at hx
    split at hx
    · simp at hx
    · rename_i hz
      obtain ⟨_, j, hj, hj0, hj1⟩ := hn k h0 h1 hz
      rw [hj, Option.getD_some] at hx
      split at hx
      · simp at hx
      · split at hx
        · exact hr x hx
        · refine ih j (ring ++ [j]) hj0 hj1 ?_ x hx
          intro y hy
          rcases List.mem_append.mp hy with hy | hy
          · exact hr y hy
          · simp at hy; subst hy; exact ⟨hj0, hj1⟩
theorem cutOf_mem (l : List It) : ∀ (r : List Int) (c : Int), (r.foldl (fun cut k => if youngB (rdI l k) (rdI l cut) then k else cut) c) = c ∨ (r.foldl (fun cut k => if youngB (rdI l k) (rdI l cut) then k else cut) c) ∈ r := by
  intro r
  induction r with
  | nil => intro c; left; rfl
  | cons x r ih =>
    intro c
    rw [List.foldl_cons]
    rcases ih (if youngB (rdI l x) (rdI l c) then x else c) with h | h
    · rw [h]
      split
      · right; simp
      · left; rfl
    · right; exact List.mem_cons_of_mem _ h
theorem MapIs.grown {w w' : World} {B n g : Nat} {m : Int → Option Int} (h : MapIs w B n m) (hg : w.grownBy w' (some g)) (hne : g ≠ B) : MapIs w' B n m := by
  obtain ⟨D, ho, h2⟩ := h
  refine ⟨D, ?_, h2⟩
  obtain ⟨es, clock, hbm, r⟩ := ho
  exact ⟨es, clock, (hg.block _ (Array.getElem?_eq_some_iff.1 hbm).1 (by intro e; injection e with e; exact hne e.symm)).trans hbm, r⟩
theorem MapIs.alloc {w : World} {B n : Nat} {m : Int → Option Int} (h : MapIs w B n m) (o : Obj) : MapIs (w.alloc o) B n m := MapIs.below h ((Below.refl _ _).alloc (Nat.le_refl _) o)
theorem MapIs.ne {w : World} {B n g e : Nat} {m : Int → Option Int} {cells : Array Value} (h : MapIs w B n m) (hg : w.heap[g]? = some (.cells cells e (0, 0))) : g ≠ B := by
  obtain ⟨D, ho, h2⟩ := h
  obtain ⟨es, clock, hbm, r⟩ := ho
  rintro rfl
  rw [hg] at hbm
  simp at hbm
end Go.Proofs.Ytplchdlcolepmaa.P
