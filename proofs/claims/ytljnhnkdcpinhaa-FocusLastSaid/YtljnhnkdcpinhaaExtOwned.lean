/-
  What the given program's focus.owned computes: the contract of its calls over this seat's translation. Conditions: none but that places lie within the slices.
-/
import Derived.Test.YtljnhnkdcpinhaaExtOwnersB
namespace Go.Proofs.Ytljnhnkdcpinhaa.P
open Go.RowKit Go.Maps Go.Proofs.Ytljnhnkdcpinhaa.M Go.Proofs.YtljnhnkdcpinhaaW.PrintWords Go.Proofs.YtljnhnkdcpinhaaW.PrintLast
set_option linter.unusedVariables false
set_option linter.unusedSimpArgs false

theorem below_drewN_alloc (w : World) (o : Obj) (n : Nat) : Below w.heap.size w ((w.alloc o).drewN n) := pw_below_drewN ((Below.refl _ _).alloc (Nat.le_refl _) _) n

set_option maxHeartbeats 2000000 in
set_option maxRecDepth 100000 in
theorem closure_any (b5 b6 : Nat) (A1 : Option Addr) (c1 : Nat) (os : List Int) (i : Int) (x : It) (w : World) (h5 : w.cell? ⟨b5, 0, none⟩ = some (.slice A1 os.length c1)) (h6 : w.cell? ⟨b6, 0, none⟩ = some (.int .i64 i))
    (hos : Kd.C (Kd.int .i64) w A1 os.length os) (h0 : 0 ≤ i) (h1 : i < os.length) :
    Calls Try.prog 30 #[.agg #[.int .i64 x.f0, .int .i64 x.f1, .int .i64 x.f2, .bool x.f3, .int .i64 x.f4, .int .i64 x.f5], .pointer (some ⟨b5, 0, none⟩), .pointer (some ⟨b6, 0, none⟩)] w fun e w' => e = .returned (.bool (x.f0 == rd os i)) ∧ Below w.heap.size w w' := by
  obtain ⟨ad, rfl, hcell0⟩ := ReadsOf.at_ (Kd.reads_of_C (d := (0 : Int)) hos) i h0 h1
  have hcell : w.cell? (ad.add i.toNat) = some (.int .i64 (rd os i)) := hcell0
  have l5 : b5 < w.heap.size := World.block_lt_of_cell? _ _ h5
  have l6 : b6 < w.heap.size := World.block_lt_of_cell? _ _ h6
  have l7 : (ad.add i.toNat).block < w.heap.size := World.block_lt_of_cell? _ _ hcell
  obtain ⟨f0, f1, f2, f3, f4, f5⟩ := x
  clear hcell0 hos
  generalize rd os i = o at hcell ⊢
  go_enter Try.func30, Try.ntmps30
  go_wp2
  go_quiet (fail)
  go_wp2
  go_ret
  exact ⟨rfl, below_drewN_alloc _ _ _⟩

/-! ### the place of a client -/
def idxF : List It → Int → Int → Int
  | [], _, _ => -1
  | x :: l, o, i => if x.f0 = o then i else idxF l o (i + 1)
def focus_owned.f : Nat → List It → List Int → Int → Int → Option Bool
  | 0, _, _, _, _ => none
  | k + 1, l, os, i, c => if 0 ≤ i ∧ i < os.length then (if rd os i = 0 then some false else if rd os i = c then some true else focus_owned.f k l os (idxF l (rd os i) 0) c) else none
theorem focus_owned.mono : ∀ a0 a1 a2 a3 k, LeO (focus_owned.f k a0 a1 a2 a3) (focus_owned.f (k + 1) a0 a1 a2 a3) := by
  intro l os i c k
  induction k generalizing i with
  | zero => intro r h; simp [focus_owned.f] at h
  | succ k ih =>
    rw [focus_owned.f]
    conv => rhs; rw [focus_owned.f]
    refine LeO.ite (LeO.ite (LeO.refl _) (LeO.ite (LeO.refl _) (ih _))) (LeO.refl _)

set_option maxHeartbeats 2000000 in
set_option maxRecDepth 100000 in
theorem index_any (A0 : Option Addr) (c0 : Nat) (l0 : List It) (b5 b6 : Nat) (A1 : Option Addr) (c1 : Nat) (os : List Int) (i : Int) (w : World) (hr0 : Kd.C k35 w A0 l0.length l0) (h5 : w.heap[b5]? = some (.cells #[.slice A1 os.length c1] 26 (0, 0))) (h6 : w.heap[b6]? = some (.cells #[.int .i64 i] 3 (0, 0)))
    (hos : Kd.C (Kd.int .i64) w A1 os.length os) (h0 : 0 ≤ i) (h1 : i < os.length) :
    Calls Try.prog 29 #[.slice A0 l0.length c0, .func (Fn.func 30) #[] #[.pointer (some ⟨b5, 0, none⟩), .pointer (some ⟨b6, 0, none⟩)]] w fun e w' => e = .returned (.int .i64 (idxF l0 (rd os i) 0)) ∧ Below w.heap.size w w' := by
  generalize hR : idxF l0 (rd os i) 0 = R
  have HR := Lib.hid hR
  have hlm := hr0.2.1
  have HC := Lib.hid hr0
  have H5 := Lib.hid h5
  have H6 := Lib.hid h6
  have HOS := Lib.hid hos
  clear hR hr0 h5 h6 hos
  go_enter Try.func29, Try.ntmps29
  go_wp2
  go_loopw [8] (fun v8 wr => ∃ j : Nat, v8 = .int .i64 j ∧ j ≤ l0.length ∧ Hid (idxF (l0.drop j) (rd os i) j = R) ∧ Hid (Below w.heap.size w wr)) (fun v8 _ => l0.length + 1 - (intOf v8).toNat)
  case atStart => exact ⟨0, rfl, by omega, HR, Lib.hid (Below.refl _ _)⟩
  case round =>
    obtain ⟨j, rfl, hj, HI, HB⟩ := hrel
    cases e : l0.drop j with
    | nil =>
      have hlt : l0.length ≤ j := by simpa using e
      have hI := HI.out
      rw [e] at hI
      have hI' : (-1 : Int) = R := hI
      subst hI'
      clear hI e HI HR
      go_wp2
      go_ret
      exact ⟨rfl, HB.out⟩
    | cons x m =>
      obtain ⟨hrd, hlt, hdr⟩ := rd_drop e
      obtain ⟨ad, hA0, g0, g1, g2, g3, g4, g5⟩ := item_at (Kd.C_below HC.out HB.out) e
      subst hA0
      have hI := HI.out
      rw [e, idxF] at hI
      have hc5 : wr.cell? ⟨b5, 0, none⟩ = some (.slice A1 os.length c1) := cell_of ((HB.out.block _ (Array.getElem?_eq_some_iff.1 H5.out).1).trans H5.out) 0
      have hc6 : wr.cell? ⟨b6, 0, none⟩ = some (.int .i64 i) := cell_of ((HB.out.block _ (Array.getElem?_eq_some_iff.1 H6.out).1).trans H6.out) 0
      have hcl := closure_any b5 b6 A1 c1 os i x wr hc5 hc6 (Kd.C_below HOS.out HB.out) h0 h1
      have HCL := Lib.hid hcl
      have hsz := HB.out.size
      have HDR := Lib.hid hdr
      clear e hrd hc5 hc6 hcl hdr HI HR
      by_cases hx : x.f0 = rd os i
      · rw [if_pos hx] at hI
        have hxb : (x.f0 == rd os i) = true := by rw [beq_iff_eq]; exact hx
        have HXB := Lib.hid hxb
        have HI := Lib.hid hI
        clear hx hxb hI
        go_wp2_with (go_at_call 30; refine HCL.out.mono ?_; rintro e W1 ⟨rfl, b1⟩; rw [HXB.out])
        go_ret
        exact ⟨by rw [← HI.out]; rfl, HB.out.trans (b1.mono hsz)⟩
      · rw [if_neg hx] at hI
        have hxb : (x.f0 == rd os i) = false := by rw [beq_eq_false_iff_ne]; exact hx
        have HXB := Lib.hid hxb
        have HI := Lib.hid hI
        clear hx hxb hI
        go_wp2_with (go_at_call 30; refine HCL.out.mono ?_; rintro e W1 ⟨rfl, b1⟩; rw [HXB.out])
        go_roundw
        case rel => exact ⟨j + 1, by go_num, by omega, Lib.hid (by rw [HDR.out]; exact HI.out), Lib.hid (HB.out.trans (b1.mono hsz))⟩
        case measure => simp [intOf]; omega

set_option maxHeartbeats 2000000 in
set_option maxRecDepth 100000 in
theorem owned_any (A0 : Option Addr) (c0 : Nat) (l0 : List It) (A1 : Option Addr) (c1 : Nat) (os : List Int) (i client : Int) (k : Nat) (r : Bool) (w : World) (hr0 : Kd.C k35 w A0 l0.length l0) (hr1 : Kd.C (Kd.int .i64) w A1 os.length os)
    (h : focus_owned.f k l0 os i client = some r) :
    Calls Try.prog 19 #[.slice A0 l0.length c0, .slice A1 os.length c1, .int .i64 i, .int .i64 client] w fun e w' => e = .returned (.bool r) ∧ Below w.heap.size w w' := by
  have HC := Lib.hid hr0
  have HC1 := Lib.hid hr1
  have H := Lib.hid h
  clear hr0 hr1 h
  go_enter Try.func19, Try.ntmps19
  go_wp2
  go_loopg [] k (fun kq wr => ∃ i : Int, wr.heap[w.heap.size]? = some (.cells #[.slice A1 os.length c1] 26 (0, 0)) ∧ wr.heap[w.heap.size + 1]? = some (.cells #[.int .i64 i] 3 (0, 0)) ∧ Hid (focus_owned.f kq l0 os i client = some r) ∧ Hid (Below w.heap.size w wr))
  case atStart =>
    refine ⟨i, ?_, ?_, H, Lib.hid (((Below.refl _ w).alloc (Nat.le_refl _) _).alloc (by simp) _)⟩
    · have h1 := (MapKept.heap_alloc w (.cells #[.slice A1 os.length c1] 26)).1
      exact (Below.heap_alloc _ _ _ (by simp)).trans h1
    · have h1 := (MapKept.heap_alloc (w.alloc (.cells #[.slice A1 os.length c1] 26)) (.cells #[.int .i64 i] 3)).1
      simpa using h1
  case round =>
    obtain ⟨i, hb5, hb6, HA, HB⟩ := hrel
    cases gk with
    | zero => exact absurd HA.out (by simp [focus_owned.f])
    | succ k1 =>
      have hA := HA.out
      rw [focus_owned.f] at hA
      split at hA
      · rename_i hin
        obtain ⟨h0, h1⟩ := hin
        have h5 := cell_of hb5 0
        have h6 := cell_of hb6 0
        have z6 : wr.frozen? ⟨w.heap.size + 1, 0, none⟩ = false := by simp [World.frozen?, hb6]
        simp only [List.getElem?_toArray, List.getElem?_cons_zero] at h5 h6
        have hos := Kd.C_below HC1.out HB.out
        obtain ⟨ad, hA1, hcell0⟩ := ReadsOf.at_ (Kd.reads_of_C (d := (0 : Int)) hos) i h0 h1
        have hcell : wr.cell? (ad.add i.toNat) = some (.int .i64 (rd os i)) := hcell0
        subst hA1
        have HOS := Lib.hid hos
        have l6 : w.heap.size + 1 < wr.heap.size := World.block_lt_of_cell? _ _ h6
        have l7 : (ad.add i.toNat).block < wr.heap.size := World.block_lt_of_cell? _ _ hcell
        clear hcell0 hos HA
        generalize ho : rd os i = o at hcell hA
        have HO := Lib.hid ho
        clear ho
        by_cases hz : o = 0
        · rw [if_pos hz] at hA
          obtain rfl := Option.some.inj hA
          subst hz
          go_wp2
          go_ret
          exact ⟨rfl, HB.out⟩
        · rw [if_neg hz] at hA
          have hzb : (o != 0) = true := by rw [bne_iff_ne]; exact hz
          by_cases hc : o = client
          · rw [if_pos hc] at hA
            obtain rfl := Option.some.inj hA
            subst hc
            clear hz
            go_wp2
            go_ret
            exact ⟨rfl, HB.out⟩
          · rw [if_neg hc] at hA
            have hcb : (o == client) = false := by rw [beq_eq_false_iff_ne]; exact hc
            have HA := Lib.hid hA
            clear hA hz hc
            go_wp2_with fail
            refine (index_any A0 c0 l0 w.heap.size (w.heap.size + 1) _ c1 os i _ (Kd.C_below HC.out HB.out) hb5 hb6 HOS.out h0 h1).mono ?_
            rintro e W1 ⟨rfl, b1⟩
            rw [HO.out]
            have hb51 := (b1.block _ (Array.getElem?_eq_some_iff.1 hb5).1).trans hb5
            have hb61 := (b1.block _ (Array.getElem?_eq_some_iff.1 hb6).1).trans hb6
            have HB5 := Lib.hid hb51
            have HB6 := Lib.hid hb61
            have h61 := cell_of hb61 0
            simp only [List.getElem?_toArray, List.getElem?_cons_zero] at h61
            have z61 : W1.frozen? ⟨w.heap.size + 1, 0, none⟩ = false := by simp [World.frozen?, hb61]
            have l61 : w.heap.size + 1 < W1.heap.size := World.block_lt_of_cell? _ _ h61
            have HBB := Lib.hid (HB.out.trans (b1.mono HB.out.size))
            clear b1 hb51 hb61 hb5 hb6 h5 h6 z6 HOS l6 l7 hcell hcb hzb
            go_wp2_with fail
            go_roundg k1
            case measure => omega
            case rel =>
              refine ⟨idxF l0 o 0, ?_, ?_, HA, Lib.hid (HBB.out.setCell (p := ⟨w.heap.size + 1, 0, none⟩) (by simp) _)⟩
              · rw [Below.heap_setCell _ _ _ _ (by simp)]; exact HB5.out
              · simp [World.setCell, Array.getElem?_modify, HB6.out]
      · exact absurd hA (by simp)

theorem focus_owned.calls (k : Nat) (A0 : Option Addr) (c0 : Nat) (l0 : List It) (A1 : Option Addr) (c1 : Nat) (l1 : List Int) (a2 : Int) (a3 : Int) (r : Bool) (w : World) (hr0 : Kd.C k35 w A0 l0.length l0) (hc0 : l0.length ≤ c0) (hr1 : Kd.C (Kd.int .i64) w A1 l1.length l1) (hc1 : l1.length ≤ c1) (h : focus_owned.f k l0 l1 a2 a3 = some r) :
    Calls Try.prog 19 #[.slice A0 l0.length c0, .slice A1 l1.length c1, .int .i64 a2, .int .i64 a3] w fun e w' => e = .returned (.bool r) ∧ Below w.heap.size w w' :=
  owned_any A0 c0 l0 A1 c1 l1 a2 a3 k r w hr0 hr1 h
end Go.Proofs.Ytljnhnkdcpinhaa.P
