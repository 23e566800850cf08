/-
  What the given program's order.Owners computes: the contract of its calls over this seat's translation. Conditions: the items' numbers are of 64 bits.
-/
import Derived.Test.YtplchdlcolepmaaExtOwners
namespace Go.Proofs.Ytplchdlcolepmaa.P
open Go.RowKit Go.Maps Go.Proofs.Ytplchdlcolepmaa.M Go.Proofs.YtplchdlcolepmaaW.PrintWords Go.Proofs.YtplchdlcolepmaaW.PrintLast
set_option linter.unusedVariables false
set_option linter.unusedSimpArgs false

def order_Owners.f (l0 : List It) : Option (List Int) := (order_Check.f l0).bind fun e => some (if e = 0 then ownersL l0 else [])

def chkV (l : List It) : Int := if l.length > 128 then 2 else chkL [] l
theorem check_zero (A0 : Option Addr) (c0 : Nat) (l0 : List It) (w : World) (hr0 : Kd.C k38 w A0 l0.length l0) (hw : ∀ x ∈ l0, wfIt x) (h : chkV l0 = 0) :
    Calls Try.prog 9 #[.slice A0 l0.length c0] w fun e w' => e = .returned (.int .i64 0) ∧ Below w.heap.size w w' := by
  have := check_any A0 c0 l0 w hr0 hw
  rw [show (if l0.length > 128 then 2 else chkL [] l0) = chkV l0 from rfl, h] at this
  exact this
theorem check_v (A0 : Option Addr) (c0 : Nat) (l0 : List It) (w : World) (hr0 : Kd.C k38 w A0 l0.length l0) (hw : ∀ x ∈ l0, wfIt x) :
    Calls Try.prog 9 #[.slice A0 l0.length c0] w fun e w' => e = .returned (.int .i64 (chkV l0)) ∧ Below w.heap.size w w' := check_any A0 c0 l0 w hr0 hw
theorem MapIs.grownR {w w' : World} {B n : Nat} {row : Option Nat} {m : Int → Option Int} (h : MapIs w B n m) (hg : w.grownBy w' row) (hne : some B ≠ row) : MapIs w' B n m := by
  obtain ⟨D, ho, h2⟩ := h
  refine ⟨D, ?_, h2⟩
  obtain ⟨es, clock, hbm, r⟩ := ho
  exact ⟨es, clock, (hg.block _ (Array.getElem?_eq_some_iff.1 hbm).1 hne).trans hbm, r⟩
theorem around_n (B n N : Nat) (m : Int → Option Int) (A1 : Option Addr) (c1 : Nat) (os : List Int) (hN : os.length = N) (start : Int) (w : World) (hm : MapIs w B n m) (hr1 : Kd.C (Kd.int .i64) w A1 os.length os) (hn : Named m os) (hlen : N ≤ 128)
    (h0 : 0 ≤ start) (h1 : start < N) :
    Calls Try.prog 22 #[.map (some B), .slice A1 N c1, .int .i64 start] w fun e w' => ∃ v : Value, e = .returned v ∧ Kd.R (Kd.int .i64) 3 w' w.heap.size (fun _ => True) v (aroundL m os start (os.length + 2) start [start]) ∧ Below w.heap.size w w' := by
  subst hN
  exact around_any B n m A1 c1 os start w hm hr1 hn hlen h0 h1
theorem C_of_R {w : World} {base : Nat} {A : Option Addr} {n c : Nat} {xs : List Int} (h : Kd.R (Kd.int .i64) 3 w base (fun _ => True) (.slice A n c) xs) : Kd.C (Kd.int .i64) w A xs.length xs := (Kd.R_reads' h).2.2
def foldC (l : List It) (ring : List Int) (j : Nat) : Int := (ring.take j).foldl (fun cut k => if youngB (rdI l k) (rdI l cut) then k else cut) (rd ring 0)
theorem foldC_zero (l : List It) (ring : List Int) : foldC l ring 0 = rd ring 0 := rfl
theorem foldC_succ (l : List It) (ring : List Int) (j : Nat) (h : j < ring.length) : foldC l ring (j + 1) = if youngB (rdI l (rd ring (j : Int))) (rdI l (foldC l ring j)) then rd ring (j : Int) else foldC l ring j := by
  unfold foldC
  rw [List.take_succ_eq_append_getElem h, List.foldl_append]
  have : rd ring (j : Int) = ring[j] := by
    unfold rd
    rw [Int.toNat_natCast, List.getD_eq_getElem?_getD, List.getElem?_eq_getElem h]; rfl
  rw [this]; rfl
theorem foldC_all (l : List It) (ring : List Int) : foldC l ring ring.length = cutOf l ring := by unfold foldC cutOf; rw [List.take_length]
theorem rd_mem (ring : List Int) (j : Nat) (h : j < ring.length) : rd ring (j : Int) ∈ ring := by
  unfold rd
  rw [Int.toNat_natCast, List.getD_eq_getElem?_getD, List.getElem?_eq_getElem h]
  exact List.getElem_mem h
theorem foldC_mem (l : List It) (ring : List Int) (hp : 0 < ring.length) : ∀ j, j ≤ ring.length → foldC l ring j ∈ ring := by
  intro j
  induction j with
  | zero => intro _; exact rd_mem ring 0 hp
  | succ j ih =>
    intro h
    rw [foldC_succ l ring j (by omega)]
    split
    · exact rd_mem ring j (by omega)
    · exact ih (by omega)
theorem aroundL_len (m : Int → Option Int) (os : List Int) (start : Int) : ∀ (f : Nat) (k : Int) (ring : List Int), (aroundL m os start f k ring).length ≤ os.length := by
  intro f
  induction f with
  | zero => intro k ring; simp [aroundL]
  | succ f ih =>
    intro k ring
    rw [aroundL]
    split
    · simp
    · split
      · simp
      · split
        · omega
        · exact ih _ _
theorem own0_step (l : List It) (k : Nat) (hk : k < l.length) : (own0 l).take (k + 1) ++ List.replicate (l.length - (k + 1)) 0 = ((own0 l).take k ++ List.replicate (l.length - k) 0).set k (rd (own0 l) (k : Int)) := by
  have hl : (own0 l).length = l.length := by simp [own0]
  have h1 : (own0 l).take (k + 1) = (own0 l).take k ++ [rd (own0 l) (k : Int)] := by
    rw [List.take_succ_eq_append_getElem (by omega)]
    unfold rd
    rw [Int.toNat_natCast, List.getD_eq_getElem?_getD, List.getElem?_eq_getElem (by omega)]; rfl
  have h2 : List.replicate (l.length - k) (0 : Int) = 0 :: List.replicate (l.length - (k + 1)) 0 := by
    rw [← List.replicate_succ]; congr 1; omega
  rw [h1, h2, List.set_append_right _ _ (by simp; omega)]
  have h3 : k - ((own0 l).take k).length = 0 := by simp; omega
  rw [h3]; simp

set_option maxHeartbeats 4000000 in
set_option maxRecDepth 100000 in
theorem owners_any (A0 : Option Addr) (c0 : Nat) (l0 : List It) (w : World) (hr0 : Kd.C k38 w A0 l0.length l0) (hw : ∀ x ∈ l0, wfIt x) :
    Calls Try.prog 12 #[.slice A0 l0.length c0] w fun e w' => ∃ v : Value, e = .returned v ∧ Kd.R (Kd.int .i64) 3 w' w.heap.size (fun _ => True) v (if chkV l0 = 0 then ownersL l0 else []) ∧ Below w.heap.size w w' := by
  have HC := Lib.hid hr0
  have HW := Lib.hid hw
  clear hr0 hw
  by_cases hchk : chkV l0 = 0
  · rw [if_pos hchk]
    have hlen : l0.length ≤ 128 := by
      unfold chkV at hchk
      rcases Nat.lt_or_ge 128 l0.length with h | h
      · rw [if_pos h] at hchk; exact absurd hchk (by decide)
      · exact h
    have HCK := Lib.hid hchk
    clear hchk
    go_enter Try.func12, Try.ntmps12
    go_wp2_with (go_at_call 9; refine (check_zero A0 c0 l0 _ HC.out HW.out HCK.out).mono ?_)
    rintro e w1 ⟨rfl, b1⟩
    have HB1 := Lib.hid b1
    clear b1 HCK
    go_wp2_with (go_at_call 21; refine (places_any A0 c0 l0 _ (Kd.C_below HC.out HB1.out) HW.out (by omega)).mono ?_)
    rintro e w2 ⟨rfl, m2, b2⟩
    have HB2 := Lib.hid (HB1.out.trans (b2.mono HB1.out.size))
    have HM2 := Lib.hid m2
    have hB0 : w.heap.size ≤ w1.heap.size := HB1.out.size
    clear b2 m2 HB1
    generalize w1.heap.size = B at HM2 hB0 ⊢
    go_wp2_with (at_make; refine Kd.R_make (Kd.int .i64) (w0 := w) w.heap.size 3 rfl (N := 21) rfl 27 (.tmp 20) (.tmp 20) rfl (l0.length : Int) rfl rfl Try.underlying27 (.int .i64 0) 8 info3 rfl (by decide) (by omega) (0 : Int) (ok := fun _ => True) (okp := fun _ => True) rfl (fun _ h => h) trivial (by omega) (by omega) HB2.out HB2.out.size ?_; intro v3 w3 ho hb hg hat)
    have HM3 := Lib.hid (MapIs.grownR HM2.out hg (by simp))
    rw [Int.toNat_natCast] at ho
    have HO3 := Lib.hid ho
    have HB3 := Lib.hid hb
    clear ho hb hg hat HM2 HB2
    rcases Nat.eq_zero_or_pos l0.length with hpos | hpos
    · obtain rfl : l0 = [] := List.eq_nil_of_length_eq_zero hpos
      have hv3 := Kd.R_slice HO3.out
      obtain ⟨A3, c3, rfl⟩ := hv3
      have HO4 : Hid (Kd.R (Kd.int .i64) 3 w3 w.heap.size (fun _ => True) (.slice A3 (List.replicate ([] : List It).length (0 : Int)).length c3) (ownersL [])) := Lib.hid HO3.out
      clear HO3 hpos
      refine wp_loop_rounds 1 ?_
      rw [rounds_succ]
      go_wp2
      refine wp_loop_rounds 1 ?_
      rw [rounds_succ]
      go_wp2
      go_ret
      exact ⟨_, rfl, HO4.out, HB3.out⟩
    · skip
      obtain ⟨g, cap, hv3, hg0, hg1, cells3, hcells3⟩ := Kd.R_form HO3.out (by rw [List.length_replicate]; exact hpos)
      have hgB : g ≠ B := MapIs.ne HM3.out hcells3
      clear hg1 hcells3
      rw [List.length_replicate] at hv3
      subst hv3
      go_loopw [24] (fun i wr => ∃ k : Nat, i = .int .i64 k ∧ k ≤ l0.length ∧ Hid (Kd.R (Kd.int .i64) 3 wr w.heap.size (fun _ => True) (.slice (some ⟨g, 0, none⟩) l0.length cap) ((own0 l0).take k ++ List.replicate (l0.length - k) 0)) ∧ Hid (MapIs wr B l0.length (plM l0 l0.length)) ∧ Hid (Below w.heap.size w wr)) (fun i _ => l0.length + 1 - (intOf i).toNat)
      case atStart => exact ⟨0, rfl, by omega, Lib.hid (by simpa using HO3.out), HM3, HB3⟩
      case round =>
        obtain ⟨k, rfl, hk, HO, HM, HB⟩ := hrel
        clear HO3 HM3 HB3
        cases e : l0.drop k with
        | nil =>
          have hlt : l0.length ≤ k := by simpa using e
          obtain rfl : l0.length = k := by omega
          have ho2 := HO.out
          rw [Nat.sub_self, List.replicate_zero, List.append_nil, List.take_of_length_le (by simp [own0])] at ho2
          have HO2 := Lib.hid ho2
          clear e hlt hk ho2 HO
          go_wp2
          obtain ⟨wo, rfl⟩ : ∃ wo : World, wo = wr := ⟨_, rfl⟩
          go_loopw [52] (fun i wr => ∃ k : Nat, i = .int .i64 k ∧ k ≤ l0.length ∧ Hid (Kd.R (Kd.int .i64) 3 wr w.heap.size (fun _ => True) (.slice (some ⟨g, 0, none⟩) l0.length cap) (stepsL l0 k)) ∧ Hid (MapIs wr B l0.length (plM l0 l0.length)) ∧ Hid (Below w.heap.size w wr)) (fun i _ => l0.length + 1 - (intOf i).toNat)
          case atStart => exact ⟨0, rfl, by omega, HO2, HM, HB⟩
          case round =>
            clear HO2 HM HB
            obtain ⟨k, rfl, hk, HO, HM, HB⟩ := hrel
            by_cases hlt : k < l0.length
            · have hnm := named_steps l0 HW.out k
              have HN := Lib.hid hnm
              have hsl := stepsL_len l0 k
              have HSL := Lib.hid hsl
              have hst : stepsL l0 (k + 1) = stepL l0 (stepsL l0 k) (k : Int) := rfl
              have HST := Lib.hid hst
              clear hnm hsl hst
              go_wp2_with (go_at_call 22; refine (around_n B l0.length l0.length (plM l0 l0.length) (some ⟨g, 0, none⟩) cap (stepsL l0 k) HSL.out (k : Int) _ HM.out (C_of_R HO.out) HN.out hlen (by omega) (by omega)).mono ?_)
              rintro e W1 ⟨v10, rfl, ho10, b10⟩
              have HM1 := Lib.hid (MapIs.below HM.out b10)
              have HO1 := Lib.hid (Kd.R_below HO.out b10)
              have HB1 := Lib.hid (HB.out.trans (b10.mono HB.out.size))
              have hmem := aroundL_mem (plM l0 l0.length) (stepsL l0 k) (k : Int) HN.out ((stepsL l0 k).length + 2) (k : Int) [(k : Int)] (by omega) (by rw [HSL.out]; omega) (by intro x hx; simp at hx; subst hx; rw [HSL.out]; omega)
              have HST1 := HST.out
              unfold stepL at HST1
              have hrl := aroundL_len (plM l0 l0.length) (stepsL l0 k) (k : Int) ((stepsL l0 k).length + 2) (k : Int) [(k : Int)]
              rw [HSL.out] at hmem HST1 ho10 hrl
              generalize aroundL (plM l0 l0.length) (stepsL l0 k) (k : Int) (l0.length + 2) (k : Int) [(k : Int)] = ring at ho10 hmem HST1 hrl
              have HMEM := Lib.hid hmem
              have HST2 := Lib.hid HST1
              have HO10 := Lib.hid ho10
              have hWs : wr.heap.size ≤ W1.heap.size := b10.size
              clear hmem HST1 ho10 b10 HM HO HB HN HST
              cases ring with
              | nil =>
                have hs2 := HST2.out
                rw [if_pos rfl] at hs2
                obtain ⟨A10, c10, rfl⟩ := Kd.R_slice HO10.out
                have HS2 := Lib.hid hs2
                clear hs2
                go_wp2_with fail
                go_roundw
                case rel => exact ⟨k + 1, by go_num, by omega, Lib.hid (by rw [HS2.out]; exact HO1.out), HM1, HB1⟩
                case measure => simp [intOf]; omega
              | cons y ring1 =>
                have hs2 := HST2.out
                rw [if_neg (by simp)] at hs2
                have HS2 := Lib.hid hs2
                clear hs2 HST2
                generalize hring : y :: ring1 = ring at *
                have hrp : 0 < ring.length := by rw [← hring]; simp
                clear hring
                obtain ⟨g2, cap2, hv10, hg2, hg2s, cells10, hcells10⟩ := Kd.R_form HO10.out hrp
                subst hv10
                have hg2B : g2 ≠ B := MapIs.ne HM1.out hcells10
                clear hcells10
                have hc0 := (Kd.R_celln (0 : Int) HO10.out (0 : Int) (by omega) (by omega)).1
                have hc1 : W1.cell? ⟨g2, 0, none⟩ = some (.int .i64 (rd ring 0)) := hc0
                clear hc0
                go_wp2_with fail
                obtain ⟨wo2, rfl⟩ : ∃ wo2 : World, wo2 = W1 := ⟨_, rfl⟩
                go_loopw [67, 11] (fun i c wr2 => ∃ j : Nat, i = .int .i64 j ∧ j ≤ ring.length ∧ c = .int .i64 (foldC l0 ring j) ∧ Hid (Below wo2.heap.size wo2 wr2)) (fun i _ _ => ring.length + 1 - (intOf i).toNat)
                case atStart => exact ⟨0, rfl, by omega, by rw [foldC_zero], Lib.hid (Below.refl _ _)⟩
                case round =>
                  obtain ⟨j, rfl, hj, rfl, HBI⟩ := hrel
                  have hcm := HMEM.out _ (foldC_mem l0 ring hrp j hj)
                  by_cases hjl : j < ring.length
                  · have hkm := HMEM.out _ (rd_mem ring j hjl)
                    have hfs := foldC_succ l0 ring j hjl
                    have HFS := Lib.hid hfs
                    have hrc0 := (Kd.R_celln (0 : Int) (Kd.R_below HO10.out HBI.out) (j : Int) (by omega) (by omega)).1
                    have hrc : wr.cell? ⟨g2, j, none⟩ = some (.int .i64 (rd ring (j : Int))) := hrc0
                    have hCC := Kd.C_below HC.out (HB1.out.trans (HBI.out.mono HB1.out.size))
                    generalize rd ring (j : Int) = kk at hkm hrc HFS
                    generalize foldC l0 ring j = cc at hcm HFS
                    obtain ⟨ad, hA0, g0, g1, g2', g3, g4, g5⟩ := at_T38 hCC kk hkm.1 hkm.2
                    subst hA0
                    obtain ⟨ad2, hA2, q0, q1, q2, q3, q4, q5⟩ := at_T38 hCC cc hcm.1 hcm.2
                    injection hA2 with hA2
                    subst hA2
                    obtain ⟨hk0, hk1⟩ := hkm
                    obtain ⟨hc0, hc1'⟩ := hcm
                    clear hfs hrc0 hCC
                    have hya : ∃ yb : Bool, youngB (rdI l0 kk) (rdI l0 cc) = yb ∧ ∀ w, Calls Try.prog 23 #[.agg #[.int .i64 (rdI l0 kk).f0, .int .i64 (rdI l0 kk).f1, .int .i64 (rdI l0 kk).f2, .bool (rdI l0 kk).f3, .int .i64 (rdI l0 kk).f4, .int .i64 (rdI l0 kk).f5], .agg #[.int .i64 (rdI l0 cc).f0, .int .i64 (rdI l0 cc).f1, .int .i64 (rdI l0 cc).f2, .bool (rdI l0 cc).f3, .int .i64 (rdI l0 cc).f4, .int .i64 (rdI l0 cc).f5]] w fun e w' => e = .returned (.bool yb) ∧ Below w.heap.size w w' := ⟨_, rfl, fun w => younger_any _ _ w⟩
                    obtain ⟨yb, hyb, hyc⟩ := hya
                    have HYB := Lib.hid hyb
                    have HYC := Lib.hid hyc
                    clear hyb hyc
                    go_wp2_with fail
                    cases yb with
                    | true =>
                      go_still_tail 8, (by kernel_rfl)
                      go_wp2_with (go_at_call 23; refine (HYC.out _).mono ?_; rintro e W2 ⟨rfl, b2⟩)
                      go_roundw
                      case rel =>
                        refine ⟨j + 1, by go_num, by omega, by rw [HFS.out, if_pos HYB.out], Lib.hid ?_⟩
                        exact (below_drew HBI.out).trans (b2.mono (by have := HBI.out.size; simpa using this))
                      case measure => simp [intOf]; omega
                    | false =>
                      go_still_tail 8, (by kernel_rfl)
                      go_wp2_with (go_at_call 23; refine (HYC.out _).mono ?_; rintro e W2 ⟨rfl, b2⟩)
                      go_roundw
                      case rel =>
                        refine ⟨j + 1, by go_num, by omega, by rw [HFS.out, if_neg (by rw [HYB.out]; decide)], Lib.hid ?_⟩
                        exact (below_drew HBI.out).trans (b2.mono (by have := HBI.out.size; simpa using this))
                      case measure => simp [intOf]; omega
                  · obtain rfl : ring.length = j := by omega
                    rw [foldC_all] at hcm
                    have hcl := Kd.R_celln (0 : Int) (Kd.R_below HO1.out HBI.out) (cutOf l0 ring) hcm.1 hcm.2
                    have hfa := foldC_all l0 ring
                    have hcell1 := hcl.1
                    have hcell2 := hcl.2
                    have hp := Kd.R_putg (Kd.R_below HO1.out HBI.out) (cutOf l0 ring) 0
                    have HP := Lib.hid hp
                    have HMB := Lib.hid (MapIs.below HM1.out HBI.out)
                    have HBB := Lib.hid (HB1.out.trans (HBI.out.mono HB1.out.size))
                    rw [foldC_all]
                    clear hcl hfa hp
                    generalize cutOf l0 ring = cc at hcm hcell1 hcell2 HP HS2 ⊢
                    obtain ⟨hc0, hc1'⟩ := hcm
                    have hgl : g < wr.heap.size := World.block_lt_of_cell? _ _ hcell1
                    go_wp2_with fail
                    go_roundw
                    case rel =>
                      refine ⟨k + 1, by go_num, by omega, Lib.hid ?_, Lib.hid ?_, Lib.hid ?_⟩
                      · rw [HS2.out]; exact HP.out.1
                      · exact MapIs.grown HMB.out HP.out.2 hgB
                      · exact HBB.out.setCell (p := ⟨g, cc.toNat, none⟩) hg0 _
                    case measure => simp [intOf]; omega
            · obtain rfl : l0.length = k := by omega
              go_wp2_with fail
              go_ret
              exact ⟨_, rfl, HO.out, HB.out⟩
        | cons x m =>
          obtain ⟨hrd, hlt, hdr⟩ := rd_drop e
          obtain ⟨ad, hA0, g0, g1, g2, g3, g4, g5⟩ := item_at (Kd.C_below HC.out HB.out) e
          subst hA0
          have hb : (ad.add (k * 6)).block < wr.heap.size := World.block_lt_of_cell? _ _ g0
          have hwx := HW.out x (by rw [← List.take_append_drop k l0, e]; simp)
          obtain ⟨f0, f1, f2, f3, f4, f5⟩ := x
          have ho1 := own0_step l0 k hlt
          have hr1 : rd (own0 l0) (k : Int) = if (plM l0 l0.length f2).isSome ∧ f2 ≠ f0 then f2 else 0 := by
            unfold own0
            rw [rd_map_at l0 _ (k : Int) (by omega) (by omega)]
            show (if (plM l0 l0.length (rdI l0 (k : Int)).f2).isSome ∧ (rdI l0 (k : Int)).f2 ≠ (rdI l0 (k : Int)).f0 then (rdI l0 (k : Int)).f2 else 0) = _
            rw [show rdI l0 (k : Int) = _ from hrd]
          have HO1 := Lib.hid ho1
          obtain ⟨D, hown, hD⟩ := HM.out
          have hD1 := hD f2 hwx.2.2.1
          have HK := Lib.hid (hkey (c := f2) hwx.2.2.1)
          have hcell := Kd.R_celln (0 : Int) HO.out (k : Int) (by omega) (by omega)
          have hcell1 := hcell.1
          have hcell2 := hcell.2
          rw [Int.toNat_natCast] at hcell1 hcell2
          have hgl : g < wr.heap.size := World.block_lt_of_cell? _ _ hcell1
          clear e hrd hD hwx hdr ho1 hcell
          simp only at g0 g1 g2 g3 g4 g5
          have hsz := HB.out.size
          by_cases hyes : (plM l0 l0.length f2).isSome ∧ f2 ≠ f0
          · rw [if_pos hyes] at hr1
            have hhas : Maps.has D (.int .i64 f2) = true := by rw [hD1.1]; exact hyes.1
            have hneb : (f2 != f0) = true := by rw [bne_iff_ne]; exact hyes.2
            have HR1 := Lib.hid hr1
            clear hr1 hyes hD1
            go_wp2_with (at_lookup; refine wpList_lookup_own_ok_int _ rfl _ _ 41 rfl 3 3 .i64 law3 Try.underlying41 Try.underlying3 (zero3 _) B l0.length _ rfl (hown.alloc _) _ _ rfl HK.out ?_; intro c hat hwc; clear hat hwc)
            go_roundw
            case rel =>
              have hp := Kd.R_putg HO.out (k : Int) f2
              rw [Int.toNat_natCast] at hp
              refine ⟨k + 1, by go_num, by omega, Lib.hid ?_, Lib.hid ?_, Lib.hid ?_⟩
              · rw [HO1.out, HR1.out]; exact Kd.R_alloc hp.1 _
              · exact MapIs.alloc (MapIs.grown HM.out hp.2 hgB) _
              · exact (HB.out.setCell (p := ⟨g, k, none⟩) hg0 _).alloc (by simpa using hsz) _
            case measure => simp [intOf]; omega
          · rw [if_neg hyes] at hr1
            have HR1 := Lib.hid hr1
            have hsame : (own0 l0).take (k + 1) ++ List.replicate (l0.length - (k + 1)) 0 = (own0 l0).take k ++ List.replicate (l0.length - k) 0 := by
              rw [HO1.out, HR1.out, List.set_append_right _ _ (by simp [own0]; omega)]
              have hl : (own0 l0).length = l0.length := by simp [own0]
              have h3 : k - ((own0 l0).take k).length = 0 := by simp; omega
              have h4 : l0.length - k = (l0.length - (k + 1)) + 1 := by omega
              rw [h3, h4, List.replicate_succ]; rfl
            have HSA := Lib.hid hsame
            clear hr1 hsame hcell1 hcell2
            by_cases hs : (plM l0 l0.length f2).isSome
            · have hhas : Maps.has D (.int .i64 f2) = true := by rw [hD1.1]; exact hs
              have heq : f2 = f0 := by
                by_cases h : f2 = f0
                · exact h
                · exact absurd ⟨hs, h⟩ hyes
              have hneb : (f2 != f0) = false := by rw [bne_eq_false_iff_eq]; exact heq
              have HQ := Lib.hid heq
              clear heq hs hyes hD1
              go_wp2_with (at_lookup; refine wpList_lookup_own_ok_int _ rfl _ _ 41 rfl 3 3 .i64 law3 Try.underlying41 Try.underlying3 (zero3 _) B l0.length _ rfl (hown.alloc _) _ _ rfl HK.out ?_; intro c hat hwc; clear hat hwc)
              go_roundw
              case rel =>
                refine ⟨k + 1, by go_num, by omega, Lib.hid ?_, Lib.hid ?_, Lib.hid ?_⟩
                · rw [HSA.out]; exact Kd.R_alloc HO.out _
                · exact MapIs.alloc HM.out _
                · exact HB.out.alloc hsz _
              case measure => simp [intOf]; omega
            · have hhas : Maps.has D (.int .i64 f2) = false := by rw [hD1.1]; simpa using hs
              clear hs hyes hD1
              go_wp2_with (at_lookup; refine wpList_lookup_own_ok_int _ rfl _ _ 41 rfl 3 3 .i64 law3 Try.underlying41 Try.underlying3 (zero3 _) B l0.length _ rfl (hown.alloc _) _ _ rfl HK.out ?_; intro c hat hwc; clear hat hwc)
              go_roundw
              case rel =>
                refine ⟨k + 1, by go_num, by omega, Lib.hid ?_, Lib.hid ?_, Lib.hid ?_⟩
                · rw [HSA.out]; exact Kd.R_alloc HO.out _
                · exact MapIs.alloc HM.out _
                · exact HB.out.alloc hsz _
              case measure => simp [intOf]; omega
  · rw [if_neg hchk]
    have hne : (chkV l0 != 0) = true := by rw [bne_iff_ne]; exact hchk
    clear hchk
    go_enter Try.func12, Try.ntmps12
    go_wp2_with (go_at_call 9; refine (check_v A0 c0 l0 _ HC.out HW.out).mono ?_; rintro e w1 ⟨rfl, b1⟩)
    go_ret
    exact ⟨_, rfl, Kd.R_nil _ _ _ _ _, b1⟩

theorem order_Owners.calls (A0 : Option Addr) (c0 : Nat) (l0 : List It) (r : List Int) (w : World) (hr0 : Kd.C k38 w A0 l0.length l0) (hc0 : l0.length ≤ c0) (h : order_Owners.f l0 = some r) :
    Calls Try.prog 12 #[.slice A0 l0.length c0] w fun e w' => ∃ v0_ : Value, e = .returned (v0_) ∧ Kd.R (Kd.int .i64) 3 w' w.heap.size (fun _ => True) v0_ r ∧ Below w.heap.size w w' := by
  unfold order_Owners.f order_Check.f at h
  split at h
  · rename_i hw
    rw [Option.bind_some] at h
    obtain rfl := Option.some.inj h
    exact owners_any A0 c0 l0 w hr0 hw
  · exact absurd h (by simp)
end Go.Proofs.Ytplchdlcolepmaa.P
