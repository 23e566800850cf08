/-
  What the given program's order.Check computes: the contract of its calls over this seat's translation. Conditions: the items' numbers are of 64 bits.
-/
import Derived.Test.YtplchdlcolepmaaMapIs
import Derived.Test.YtplchdlcolepmaaPx0
import Derived.Lib.Hide
namespace Go.Proofs.Ytplchdlcolepmaa.P
open Go.RowKit Go.Maps Go.Proofs.Ytplchdlcolepmaa.M Go.Proofs.YtplchdlcolepmaaW.PrintWords Go.Proofs.YtplchdlcolepmaaW.PrintLast
set_option linter.unusedVariables false
set_option linter.unusedSimpArgs false

abbrev It := S38
def wfIt (x : It) : Prop := I64 x.f0 ∧ I64 x.f1 ∧ I64 x.f2 ∧ I64 x.f4 ∧ I64 x.f5
instance (x : It) : Decidable (wfIt x) := by unfold wfIt; infer_instance
def badIt (seen : List Int) (x : It) : Prop := x.f0 < 1 ∨ x.f0 ∈ seen ∨ x.f1 < 0 ∨ 5 ≤ x.f1 ∨ x.f4 < 0 ∨ x.f5 < 0
instance (seen : List Int) (x : It) : Decidable (badIt seen x) := by unfold badIt; infer_instance
/-- are things right, behind those that were seen? -/
def chkL : List Int → List It → Int
  | _, [] => 0
  | seen, x :: l => if badIt seen x then 1 else chkL (x.f0 :: seen) l
def order_Check.f (l0 : List It) : Option Int := if ∀ x ∈ l0, wfIt x then some (if l0.length > 128 then 2 else chkL [] l0) else none

theorem rd_drop {l m : List It} {x : It} {k : Nat} (h : l.drop k = x :: m) : rd_T38 l (k : Int) = x ∧ k < l.length ∧ l.drop (k + 1) = m := by
  have hlt : k < l.length := by
    rcases Nat.lt_or_ge k l.length with h' | h'
    · exact h'
    · rw [List.drop_of_length_le h'] at h; simp at h
  rw [List.drop_eq_getElem_cons hlt] at h
  injection h with h1 h2
  refine ⟨?_, hlt, h2⟩
  unfold rd_T38
  rw [Int.toNat_natCast, List.getD_eq_getElem?_getD, List.getElem?_eq_getElem hlt, h1]; rfl
theorem item_at {w : World} {A : Option Addr} {l : List It} {x : It} {m : List It} {k : Nat} (h : Kd.C k38 w A l.length l) (e : l.drop k = x :: m) :
    ∃ ad : Addr, A = some ad ∧ w.cell? (ad.add (k * 6)) = some (.int .i64 x.f0) ∧ w.cell? ⟨(ad.add (k * 6)).block, (ad.add (k * 6)).off + 1, none⟩ = some (.int .i64 x.f1) ∧ w.cell? ⟨(ad.add (k * 6)).block, (ad.add (k * 6)).off + 2, none⟩ = some (.int .i64 x.f2) ∧ w.cell? ⟨(ad.add (k * 6)).block, (ad.add (k * 6)).off + 3, none⟩ = some (.bool x.f3) ∧ w.cell? ⟨(ad.add (k * 6)).block, (ad.add (k * 6)).off + 4, none⟩ = some (.int .i64 x.f4) ∧ w.cell? ⟨(ad.add (k * 6)).block, (ad.add (k * 6)).off + 5, none⟩ = some (.int .i64 x.f5) := by
  obtain ⟨hr, hlt, _⟩ := rd_drop e
  obtain ⟨ad, rfl, h0, h1, h2, h3, h4, h5⟩ := at_T38 h (k : Int) (by omega) (by omega)
  rw [hr] at h0 h1 h2 h3 h4 h5
  rw [Int.toNat_natCast] at h0 h1 h2 h3 h4 h5
  exact ⟨ad, rfl, h0, h1, h2, h3, h4, h5⟩

theorem xbox {wr w1 : World} {o : Obj} {B : Nat} (hB : B < wr.heap.size) (hg : (wr.alloc o).grownBy w1 (some B)) : w1.heap[wr.heap.size]? = some o := by
  rw [hg.block _ (by simp) (by intro e; injection e with e; omega)]
  exact (MapKept.heap_alloc wr o).1
theorem cell_of {w : World} {b : Nat} {cs : Array Value} {T : TypeId} {fr : Nat × Nat} (hb : w.heap[b]? = some (.cells cs T fr)) (j : Nat) : w.cell? ⟨b, j, none⟩ = cs[j]? := by
  simp [World.cell?, hb]
theorem put_at {D : DataW Unit} (h : IsMap D) (x v c : Int) (hat : (D.put (.int .i64 x) (.lit (.int .i64 v))).atKey (.int .i64 x) (.lit (.int .i64 0)) = .lit (.int .i64 c)) : v = c := by
  rw [atKey_put_same h (isKey_int x)] at hat
  injection hat with hat
  injection hat

theorem after_put {wr w1 : World} {B n : Nat} {D : DataW Unit} {f0 f1 f2 f4 f5 v : Int} {f3 : Bool} (hK : keyOf Try.prog 3 (.int .i64 f0) = some (.int .i64 f0)) (hB : B < wr.heap.size) (hm : IsMap D)
    (hg : (wr.alloc (.cells #[.int .i64 f0, .int .i64 f1, .int .i64 f2, .bool f3, .int .i64 f4, .int .i64 f5] 38)).grownBy w1 (some B))
    (hown1 : w1.ownsMap Try.prog 3 (plainElem Try.prog 3) B n (D.put (.int .i64 f0) (.lit (.int .i64 v)))) :
    w1.cell? ⟨wr.heap.size, 0, none⟩ = some (.int .i64 f0) ∧ w1.cell? ⟨wr.heap.size, 1, none⟩ = some (.int .i64 f1) ∧ w1.cell? ⟨wr.heap.size, 4, none⟩ = some (.int .i64 f4) ∧ w1.cell? ⟨wr.heap.size, 5, none⟩ = some (.int .i64 f5) ∧
    (Instr.lookup 41 (.map (some B)) (.int .i64 f0) false).run Try.prog w1 = .ok (.int .i64 v) w1 := by
  have hX := xbox hB hg
  obtain ⟨c2, hrun2, hat2, hwc2⟩ := hown1.lookup_int law3 Try.underlying41 Try.underlying3 (zero3 _) hK
  obtain rfl := put_at hm _ _ _ hat2
  exact ⟨by rw [cell_of hX]; rfl, by rw [cell_of hX]; rfl, by rw [cell_of hX]; rfl, by rw [cell_of hX]; rfl, hrun2⟩

set_option maxHeartbeats 2000000 in
set_option maxRecDepth 100000 in
theorem check_any (A0 : Option Addr) (c0 : Nat) (l0 : List It) (w : World) (hr0 : Kd.C k38 w A0 l0.length l0) (hw : ∀ x ∈ l0, wfIt x) :
    Calls Try.prog 9 #[.slice A0 l0.length c0] w fun e w' => e = .returned (.int .i64 (if l0.length > 128 then 2 else chkL [] l0)) ∧ Below w.heap.size w w' := by
  have hmm := @run_makeMap Try.prog
  by_cases hlen : l0.length > 128
  · rw [if_pos hlen]
    go_enter Try.func9, Try.ntmps9
    go_wp2
    go_ret
    exact ⟨rfl, Below.refl _ _⟩
  · rw [if_neg hlen]
    generalize hR : chkL [] l0 = R
    have HR := Lib.hid hR
    have HC := Lib.hid hr0
    have HW := Lib.hid hw
    clear hR hr0 hw
    go_enter Try.func9, Try.ntmps9
    go_wp2
    go_loopw [12] (fun i wr => ∃ k : Nat, i = .int .i64 k ∧ k ≤ l0.length ∧ Hid (∃ seen : List Int, chkL seen (l0.drop k) = R ∧ MapIs wr w.heap.size k (fun c => if c ∈ seen then some 1 else none)) ∧ Below w.heap.size w wr) (fun i _ => l0.length + 1 - (intOf i).toNat)
    case atStart => exact ⟨0, rfl, by omega, Lib.hid ⟨[], HR.out, (MapIs.made w).congr (fun c _ => by simp)⟩, (Below.refl _ w).alloc (Nat.le_refl _) _⟩
    case round =>
      obtain ⟨k, rfl, hk, HS, hB⟩ := hrel
      have hsz := hB.size
      clear hmm
      cases e : l0.drop k with
      | nil =>
        have hlt : l0.length ≤ k := by simpa using e
        have hS := HS.out
        rw [e] at hS
        obtain ⟨seen, h1, _⟩ := hS
        have h1' : (0 : Int) = R := h1
        subst h1'
        clear HS HR HC HW h1 e
        go_wp2
        go_ret
        exact ⟨rfl, hB⟩
      | cons x m =>
        obtain ⟨hrd, hlt, hdr⟩ := rd_drop e
        obtain ⟨ad, rfl, g0, g1, g2, g3, g4, g5⟩ := item_at (Kd.C_below HC.out hB) e
        have hb : (ad.add (k * 6)).block < wr.heap.size := World.block_lt_of_cell? _ _ g0
        have hwx := HW.out x (by rw [← List.take_append_drop k l0, e]; simp)
        have HE := Lib.hid e
        clear e hrd
        have hS := HS.out
        rw [HE.out] at hS
        obtain ⟨seen, h1, D, hown, hD⟩ := hS
        obtain ⟨f0, f1, f2, f3, f4, f5⟩ := x
        have hBlt : w.heap.size < wr.heap.size := by
          obtain ⟨es, clock, hbm, _⟩ := hown
          exact (Array.getElem?_eq_some_iff.1 hbm).1
        have hk0 := hkey (c := f0) hwx.1
        have hv : (D.atKey (.int .i64 f0) (.lit (.int .i64 0)) = .lit (.int .i64 1) ∧ f0 ∈ seen) ∨ (D.atKey (.int .i64 f0) (.lit (.int .i64 0)) = .lit (.int .i64 0) ∧ f0 ∉ seen) := by
          have := (hD f0 hwx.1).2
          by_cases hs : f0 ∈ seen
          · left; simp only [if_pos hs] at this; exact ⟨this, hs⟩
          · right; simp only [if_neg hs] at this; exact ⟨this, hs⟩
        have HD := Lib.hid hD
        have H1 := Lib.hid h1
        have HK := Lib.hid hk0
        have HWX := Lib.hid hwx
        clear hD h1 HS hk0 hwx
        have hres : ∀ (_ : badIt seen ⟨f0, f1, f2, f3, f4, f5⟩), (1 : Int) = R := by
          intro hbad
          have := H1.out
          rw [chkL, if_pos hbad] at this
          exact this
        have HRES := Lib.hid hres
        clear hres
        simp only at g0 g1 g2 g3 g4 g5
        rcases hv with ⟨hat0, hs⟩ | ⟨hat0, hs⟩
        · -- it was seen
          have HA := Lib.hid hat0
          have hR1 : 1 = R := HRES.out (.inr (.inl hs))
          have HS2 := Lib.hid hs
          clear hat0 hs HRES H1 HR
          subst hR1
          by_cases c0 : f0 < 1
          all_goals
            go_wp2_with (first
              | (at_lookup; refine wpList_lookup_own_int _ rfl _ _ 41 rfl 3 3 .i64 law3 Try.underlying41 Try.underlying3 (zero3 _) w.heap.size k _ rfl (hown.alloc _) _ _ rfl HK.out ?_; intro c hat hwc; obtain rfl : 1 = c := (by have h_ := HA.out.symm.trans hat; injection h_ with h_; injection h_); clear hat hwc)
              | (at_mapUpdate; refine wpList_mapUpdate_own _ rfl _ _ _ 41 rfl 3 3 law3 Try.underlying41 _ w.heap.size k _ rfl (hown.alloc _) (by unfold maxLen; omega) _ _ _ rfl rfl HK.out _ [] (plainElem_int Try.underlying3 (by decide)) ?_; intro w1 hown1 hgrow1; obtain ⟨x0, x1, x4, x5, hrun2⟩ := after_put HK.out hBlt hown.isMap hgrow1 hown1))
            go_ret
            exact ⟨rfl, (hB.alloc hsz _).grown hgrow1 (by have := (hB.alloc hsz (.cells #[.int .i64 f0, .int .i64 f1, .int .i64 f2, .bool f3, .int .i64 f4, .int .i64 f5] 38)).size; exact this) (fun j hj => by cases hj; exact Nat.le_refl _)⟩
        · have HA := Lib.hid hat0
          have hcase : (f0 < 1) ∨ (1 ≤ f0 ∧ f1 < 0) ∨ (1 ≤ f0 ∧ 0 ≤ f1 ∧ 5 ≤ f1) ∨ (1 ≤ f0 ∧ 0 ≤ f1 ∧ f1 < 5 ∧ f4 < 0) ∨ (1 ≤ f0 ∧ 0 ≤ f1 ∧ f1 < 5 ∧ 0 ≤ f4 ∧ f5 < 0) ∨ (1 ≤ f0 ∧ 0 ≤ f1 ∧ f1 < 5 ∧ 0 ≤ f4 ∧ 0 ≤ f5) := by omega
          have HS2 := Lib.hid hs
          clear hat0 hs
          have hbads : (f0 < 1 ∨ f1 < 0 ∨ 5 ≤ f1 ∨ f4 < 0 ∨ f5 < 0) → 1 = R := fun h => HRES.out (by
            rcases h with h | h | h | h | h
            · exact .inl h
            · exact .inr (.inr (.inl h))
            · exact .inr (.inr (.inr (.inl h)))
            · exact .inr (.inr (.inr (.inr (.inl h))))
            · exact .inr (.inr (.inr (.inr (.inr h)))))
          have HBAD := Lib.hid hbads
          clear hbads HRES
          by_cases hgood : 1 ≤ f0 ∧ 0 ≤ f1 ∧ f1 < 5 ∧ 0 ≤ f4 ∧ 0 ≤ f5
          · obtain ⟨d0, d1, d2, d3, d4⟩ := hgood
            have hnext : chkL (f0 :: seen) m = R := by
              have := H1.out
              rw [chkL, if_neg (by
                intro h
                rcases h with h | h | h | h | h | h
                · exact absurd h (by simp; omega)
                · exact HS2.out h
                · exact absurd h (by simp; omega)
                · exact absurd h (by simp; omega)
                · exact absurd h (by simp; omega)
                · exact absurd h (by simp; omega))] at this
              exact this
            have HN := Lib.hid hnext
            clear hnext H1 HBAD hcase HR
            go_wp2_with (first
              | (at_lookup; refine wpList_lookup_own_int _ rfl _ _ 41 rfl 3 3 .i64 law3 Try.underlying41 Try.underlying3 (zero3 _) w.heap.size k _ rfl (hown.alloc _) _ _ rfl HK.out ?_; intro c hat hwc; obtain rfl : 0 = c := (by have h_ := HA.out.symm.trans hat; injection h_ with h_; injection h_); clear hat hwc)
              | (at_mapUpdate; refine wpList_mapUpdate_own _ rfl _ _ _ 41 rfl 3 3 law3 Try.underlying41 _ w.heap.size k _ rfl (hown.alloc _) (by unfold maxLen; omega) _ _ _ rfl rfl HK.out _ [] (plainElem_int Try.underlying3 (by decide)) ?_; intro w1 hown1 hgrow1; obtain ⟨x0, x1, x4, x5, hrun2⟩ := after_put HK.out hBlt hown.isMap hgrow1 hown1))
            go_roundw
            case rel =>
              refine ⟨k + 1, by go_num, by omega, Lib.hid ⟨f0 :: seen, ?_, ?_⟩, (hB.alloc hsz _).grown hgrow1 (by have := (hB.alloc hsz (.cells #[.int .i64 f0, .int .i64 f1, .int .i64 f2, .bool f3, .int .i64 f4, .int .i64 f5] 38)).size; exact this) (fun j hj => by cases hj; exact Nat.le_refl _)⟩
              · rw [hdr]; exact HN.out
              · refine (MapIs.put hown.isMap HD.out f0 1 hown1).congr (fun c _ => ?_)
                by_cases e : c = f0
                · simp [e]
                · simp [e]
            case measure => simp [intOf]; omega
          · have hR1 : 1 = R := HBAD.out (by omega)
            clear HBAD H1 HR
            subst hR1
            rcases hcase with d0 | ⟨d0, d1⟩ | ⟨d0, d1, d2⟩ | ⟨d0, d1, d2, d3⟩ | ⟨d0, d1, d2, d3, d4⟩ | hg
            rotate_right 1
            · exact absurd hg hgood
            all_goals
              clear hgood
              go_wp2_with (first
                | (at_lookup; refine wpList_lookup_own_int _ rfl _ _ 41 rfl 3 3 .i64 law3 Try.underlying41 Try.underlying3 (zero3 _) w.heap.size k _ rfl (hown.alloc _) _ _ rfl HK.out ?_; intro c hat hwc; obtain rfl : 0 = c := (by have h_ := HA.out.symm.trans hat; injection h_ with h_; injection h_); clear hat hwc)
                | (at_mapUpdate; refine wpList_mapUpdate_own _ rfl _ _ _ 41 rfl 3 3 law3 Try.underlying41 _ w.heap.size k _ rfl (hown.alloc _) (by unfold maxLen; omega) _ _ _ rfl rfl HK.out _ [] (plainElem_int Try.underlying3 (by decide)) ?_; intro w1 hown1 hgrow1; obtain ⟨x0, x1, x4, x5, hrun2⟩ := after_put HK.out hBlt hown.isMap hgrow1 hown1))
              go_ret
              exact ⟨rfl, (hB.alloc hsz _).grown hgrow1 (by have := (hB.alloc hsz (.cells #[.int .i64 f0, .int .i64 f1, .int .i64 f2, .bool f3, .int .i64 f4, .int .i64 f5] 38)).size; exact this) (fun j hj => by cases hj; exact Nat.le_refl _)⟩

theorem order_Check.calls (A0 : Option Addr) (c0 : Nat) (l0 : List It) (r : Int) (w : World) (hr0 : Kd.C k38 w A0 l0.length l0) (hc0 : l0.length ≤ c0) (h : order_Check.f l0 = some r) :
    Calls Try.prog 9 #[.slice A0 l0.length c0] w fun e w' => e = .returned (.int .i64 r) ∧ Below w.heap.size w w' := by
  unfold order_Check.f at h
  split at h
  · rename_i hw
    obtain rfl := Option.some.inj h
    exact check_any A0 c0 l0 w hr0 hw
  · exact absurd h (by simp)
end Go.Proofs.Ytplchdlcolepmaa.P
