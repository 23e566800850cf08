/-
  What the given program's order.Bands computes: the contract of its calls over this seat's translation. Conditions: the items' numbers are of 64 bits, and no chain of owners is longer than the list.
-/
import Derived.Test.YtplchdlcolepmaaExtOwnersB
import Derived.Test.YtplchdlcolepmaaWMore
namespace Go.Proofs.Ytplchdlcolepmaa.P
open Go.RowKit Go.Maps Go.Proofs.Ytplchdlcolepmaa.M Go.Proofs.YtplchdlcolepmaaW.PrintWords Go.Proofs.YtplchdlcolepmaaW.PrintLast Go.Proofs.YtplchdlcolepmaaW.PrintMore
attribute [local go_sem] max2_int max_two
set_option linter.unusedVariables false
set_option linter.unusedSimpArgs false

def own (l : List It) (os : List Int) (k : Int) : Int := (plM l l.length (rd os k)).getD 0
def mx2 (x y : Int) : Int := if x < y then y else x
def bandGo (l : List It) (os : List Int) : Nat → Int → Int → Option Int
  | 0, _, _ => none
  | f + 1, k, most => if rd os k = 0 then some most else bandGo l os f (own l os k) (mx2 most (rdI l (own l os k)).f1)
def bandAt (l : List It) (i : Int) : Option Int := bandGo l (ownersL l) (l.length + 1) i (rdI l i).f1
def bandsV (l : List It) : List Int := (List.range l.length).map fun (i : Nat) => (bandAt l (i : Int)).getD 0
def bandsOK (l : List It) : Prop := ∀ i : Nat, i < l.length → (bandAt l (i : Int)).isSome = true
instance (l : List It) : Decidable (bandsOK l) := by unfold bandsOK; infer_instance
def order_Bands.f (l0 : List It) : Option (List Int) := (order_Check.f l0).bind fun e => if e = 0 then (if bandsOK l0 then some (bandsV l0) else none) else some []

theorem bandsV_len (l : List It) : (bandsV l).length = l.length := by simp [bandsV]
theorem rd_bandsV (l : List It) (k : Nat) (h : k < l.length) : rd (bandsV l) (k : Int) = (bandAt l (k : Int)).getD 0 := by
  unfold rd bandsV
  rw [Int.toNat_natCast, List.getD_eq_getElem?_getD, List.getElem?_map, List.getElem?_range h]; rfl
def outB (l : List It) (k : Nat) : List Int := (bandsV l).take k ++ List.replicate (l.length - k) 0
theorem outB_zero (l : List It) : outB l 0 = List.replicate l.length 0 := by simp [outB]
theorem outB_all (l : List It) : outB l l.length = bandsV l := by
  unfold outB; rw [Nat.sub_self, List.replicate_zero, List.append_nil, List.take_of_length_le (by rw [bandsV_len]; omega)]
theorem outB_len (l : List It) (k : Nat) (h : k ≤ l.length) : (outB l k).length = l.length := by unfold outB; rw [List.length_append, List.length_take, List.length_replicate, bandsV_len]; omega
theorem outB_step (l : List It) (k : Nat) (hk : k < l.length) : outB l (k + 1) = (outB l k).set k (rd (bandsV l) (k : Int)) := by
  have hl := bandsV_len l
  unfold outB
  have h1 : (bandsV l).take (k + 1) = (bandsV l).take k ++ [rd (bandsV l) (k : Int)] := by
    rw [List.take_succ_eq_append_getElem (by omega)]
    unfold rd
    rw [Int.toNat_natCast, List.getD_eq_getElem?_getD, List.getElem?_eq_getElem (by omega)]; rfl
  have h2 : List.replicate (l.length - k) (0 : Int) = 0 :: List.replicate (l.length - (k + 1)) 0 := by
    rw [← List.replicate_succ]; congr 1; omega
  rw [h1, h2, List.set_append_right _ _ (by rw [List.length_take]; omega)]
  have h3 : k - ((bandsV l).take k).length = 0 := by rw [List.length_take]; omega
  rw [h3]; simp
theorem set_set_int (l : List Int) (k : Nat) (a b : Int) : (l.set k a).set k b = l.set k b := by simp
theorem rd_set_same (l : List Int) (k : Nat) (a : Int) (h : k < l.length) : rdOf (0 : Int) (l.set k a) (k : Int) = a := by
  unfold rdOf
  rw [Int.toNat_natCast, List.getD_eq_getElem?_getD, List.getElem?_set_self (by omega)]; rfl

theorem owners_z (A0 : Option Addr) (c0 : Nat) (l0 : List It) (w : World) (hr0 : Kd.C k38 w A0 l0.length l0) (hw : ∀ x ∈ l0, wfIt x) (L : List Int) (hL : (if chkV l0 = 0 then ownersL l0 else []) = L) (n : Nat) (hn : L.length = n) :
    Calls Try.prog 12 #[.slice A0 l0.length c0] w fun e w' => ∃ A9 c9, e = .returned (.slice A9 n c9) ∧ Kd.R (Kd.int .i64) 3 w' w.heap.size (fun _ => True) (.slice A9 n c9) L ∧ Below w.heap.size w w' := by
  subst hL
  refine (owners_any A0 c0 l0 w hr0 hw).mono ?_
  rintro e w1 ⟨v, rfl, h1, h2⟩
  obtain ⟨A9, c9, rfl⟩ := Kd.R_slice h1
  rw [hn] at h1 ⊢
  exact ⟨A9, c9, rfl, h1, h2⟩

set_option maxHeartbeats 4000000 in
set_option maxRecDepth 100000 in
theorem bands_any (A0 : Option Addr) (c0 : Nat) (l0 : List It) (w : World) (hr0 : Kd.C k38 w A0 l0.length l0) (hw : ∀ x ∈ l0, wfIt x) (hOK : chkV l0 = 0 → bandsOK l0) :
    Calls Try.prog 14 #[.slice A0 l0.length c0] w fun e w' => ∃ v : Value, e = .returned v ∧ Kd.R (Kd.int .i64) 3 w' w.heap.size (fun _ => True) v (if chkV l0 = 0 then bandsV l0 else []) ∧ Below w.heap.size w w' := by
  have HC := Lib.hid hr0
  have HW := Lib.hid hw
  have HOK := Lib.hid hOK
  have hbig : l0.length ≤ 9223372036854775807 := by have := hr0.2.1; omega
  clear hr0 hw hOK
  obtain ⟨L, hL⟩ : ∃ L, (if chkV l0 = 0 then ownersL l0 else []) = L := ⟨_, rfl⟩
  obtain ⟨N, hN⟩ : ∃ N, L.length = N := ⟨_, rfl⟩
  obtain ⟨RR, hRR⟩ : ∃ RR, (if chkV l0 = 0 then bandsV l0 else []) = RR := ⟨_, rfl⟩
  rw [hRR]
  have HL := Lib.hid hL
  have HN0 := Lib.hid hN
  have HRR := Lib.hid hRR
  clear hL hN hRR
  go_enter Try.func14, Try.ntmps14
  go_wp2_with (go_at_call 12; refine (owners_z A0 c0 l0 _ HC.out HW.out L HL.out N HN0.out).mono ?_)
  rintro e w1 ⟨A9, c9, rfl, o1, b1⟩
  have HO1 := Lib.hid o1
  have HB1 := Lib.hid b1
  have hB0 : w.heap.size ≤ w1.heap.size := b1.size
  clear b1 o1
  go_wp2_with (go_at_call 21; refine (places_any A0 c0 l0 _ (Kd.C_below HC.out HB1.out) HW.out hbig).mono ?_)
  rintro e w2 ⟨rfl, m2, b2⟩
  have HB2 := Lib.hid (HB1.out.trans (b2.mono hB0))
  have HM2 := Lib.hid m2
  have HC2 := Lib.hid (Kd.C_below HC.out HB2.out)
  have HO2 := Lib.hid (Kd.R_below HO1.out b2)
  have hB2 : w.heap.size ≤ w2.heap.size := HB2.out.size
  clear b2 m2 HB1 HO1
  generalize w1.heap.size = B at HM2 ⊢
  by_cases hchk : chkV l0 = 0
  · have hL := HL.out
    have hN := HN0.out
    have hRR := HRR.out
    rw [if_pos hchk] at hL hRR
    have hsl : (ownersL l0).length = l0.length := stepsL_len l0 l0.length
    obtain rfl : N = l0.length := by rw [← hN, ← hL]; exact hsl
    subst hL
    subst hRR
    have hnm := named_steps l0 HW.out l0.length
    have hcl := C_of_R HO2.out
    have hlen : l0.length ≤ 128 := by
      unfold chkV at hchk
      rcases Nat.lt_or_ge 128 l0.length with h | h
      · rw [if_pos h] at hchk; exact absurd hchk (by decide)
      · exact h
    have hok := HOK.out hchk
    have HN : Hid (Named (plM l0 l0.length) (ownersL l0)) := Lib.hid hnm
    have HCO := Lib.hid hcl
    have HSL := Lib.hid hsl
    have HBO := Lib.hid hok
    clear hnm hcl hsl hok hchk HO2 HOK HW HC HL HN0 HRR hN
    go_wp2_with (at_make; refine Kd.R_make (Kd.int .i64) (w0 := w2) w2.heap.size 3 rfl (N := 14) rfl 27 (.tmp 13) (.tmp 13) rfl (l0.length : Int) rfl rfl Try.underlying27 (.int .i64 0) 8 info3 rfl (by decide) (by omega) (0 : Int) (ok := fun _ => True) (okp := fun _ => True) rfl (fun _ h => h) trivial (by omega) (by omega) (Below.refl _ _) (Nat.le_refl _) ?_; intro v3 w3 ho hb hg hat)
    rw [Int.toNat_natCast] at ho
    have HO3 := Lib.hid ho
    have HB3 := Lib.hid hb
    clear ho hb hg hat
    rcases Nat.eq_zero_or_pos l0.length with hpos | hpos
    · obtain rfl : l0 = [] := List.eq_nil_of_length_eq_zero hpos
      obtain ⟨A3, c3, rfl⟩ := Kd.R_slice HO3.out
      have HO4 : Hid (Kd.R (Kd.int .i64) 3 w3 w.heap.size (fun _ => True) (.slice A3 (List.replicate ([] : List It).length (0 : Int)).length c3) (bandsV [])) := Lib.hid (by
        have := HO3.out
        rw [show (List.replicate ([] : List It).length (0 : Int)) = bandsV [] from rfl] at this ⊢
        exact Kd.R_lower this hB2)
      have HB4 := Lib.hid (HB2.out.trans (HB3.out.mono hB2))
      clear HO3 hpos HB3 HB2
      refine wp_loop_rounds 1 ?_
      rw [rounds_succ]
      go_wp2
      go_ret
      exact ⟨_, rfl, HO4.out, HB4.out⟩
    · obtain ⟨g, cap, hv3, hg0, hg1, cells3, hcells3⟩ := Kd.R_form HO3.out (by rw [List.length_replicate]; exact hpos)
      clear hg1 hcells3
      rw [List.length_replicate] at hv3
      subst hv3
      have HO4 : Hid (Kd.R (Kd.int .i64) 3 w3 w2.heap.size (fun _ => True) (.slice (some ⟨g, 0, none⟩) l0.length cap) (outB l0 0)) := Lib.hid (by rw [outB_zero]; exact HO3.out)
      clear HO3
      go_loopw [17] (fun i wr => ∃ k : Nat, i = .int .i64 k ∧ k ≤ l0.length ∧ Hid (Kd.R (Kd.int .i64) 3 wr w2.heap.size (fun _ => True) (.slice (some ⟨g, 0, none⟩) l0.length cap) (outB l0 k)) ∧ Hid (Below w2.heap.size w2 wr)) (fun i _ => l0.length + 1 - (intOf i).toNat)
      case atStart => exact ⟨0, rfl, by omega, HO4, HB3⟩
      case round =>
        clear HO4 HB3
        obtain ⟨k, rfl, hk, HO, HB⟩ := hrel
        by_cases hlt : k < l0.length
        · obtain ⟨r, hr⟩ := Option.isSome_iff_exists.mp (HBO.out k hlt)
          have hst := outB_step l0 k hlt
          rw [rd_bandsV l0 k hlt, hr, Option.getD_some] at hst
          have hgo : bandGo l0 (ownersL l0) (l0.length + 1) (k : Int) (rdI l0 (k : Int)).f1 = some r := hr
          have HST := Lib.hid hst
          obtain ⟨ad, hA0, g0, g1, g2, g3, g4, g5⟩ := at_T38 (Kd.C_below HC2.out HB.out) (k : Int) (by omega) (by omega)
          subst hA0
          have hcl := Kd.R_celln (0 : Int) HO.out (k : Int) (by omega) (by omega)
          obtain ⟨hcell1, hcell2⟩ := hcl
          have hp := Kd.R_putg HO.out (k : Int) (rdI l0 (k : Int)).f1
          have HP := Lib.hid hp
          have HGO := Lib.hid hgo
          rw [Int.toNat_natCast] at g0 g1 g2 g3 g4 g5 hcell1 hcell2
          have g1' : wr.cell? ⟨(ad.add (k * 6)).block, (ad.add (k * 6)).off + 1, none⟩ = some (.int .i64 (rdI l0 (k : Int)).f1) := g1
          have hbl : (ad.add (k * 6)).block < wr.heap.size := World.block_lt_of_cell? _ _ g0
          have hgl : g < wr.heap.size := World.block_lt_of_cell? _ _ hcell1
          generalize (rdI l0 (k : Int)).f1 = b0 at g1' HP HGO
          clear hst hgo hp hr g0 g1 g2 g3 g4 g5 HBO
          go_wp2_with fail
          obtain ⟨wo, rfl⟩ : ∃ wo : World, wo = wr := ⟨_, rfl⟩
          go_loopg [7] (l0.length + 1) (fun kq v7 wq => ∃ (j most : Int), v7 = .int .i64 j ∧ 0 ≤ j ∧ j < l0.length ∧ Hid (bandGo l0 (ownersL l0) kq j most = some r) ∧ Hid (Kd.R (Kd.int .i64) 3 wq w2.heap.size (fun _ => True) (.slice (some ⟨g, 0, none⟩) l0.length cap) ((outB l0 k).set k most)) ∧ Hid (Below w2.heap.size w2 wq))
          case atStart =>
            refine ⟨(k : Int), b0, rfl, by omega, by omega, HGO, Lib.hid ?_, Lib.hid (HB.out.setCell (p := ⟨g, k, none⟩) hg0 _)⟩
            have := HP.out.1
            rw [Int.toNat_natCast] at this
            exact this
          case round =>
            clear HGO HP hcell1 hcell2 g1' HB HO hbl hgl
            obtain ⟨j, most, rfl, hj0, hj1, HG, HO, HB⟩ := hrel
            cases gk with
            | zero => exact absurd HG.out (by simp [bandGo])
            | succ f =>
              have hsl := HSL.out
              have hrd := ReadsOf.at_ (Kd.reads_of_C (d := (0 : Int)) (Kd.C_below HCO.out HB.out)) j hj0 (by omega)
              obtain ⟨ado, hA1, hcell0⟩ := hrd
              subst hA1
              have hcell : wr.cell? (ado.add j.toNat) = some (.int .i64 (rd (ownersL l0) j)) := hcell0
              have hgo := HG.out
              have hnm := HN.out j hj0 (by omega)
              rw [bandGo] at hgo
              unfold own at hgo
              clear hcell0 HG hsl
              generalize rd (ownersL l0) j = o at hcell hgo hnm
              by_cases hz : o = 0
              · rw [if_pos hz] at hgo
                obtain rfl := Option.some.inj hgo
                subst hz
                clear hnm hgo
                go_wp2_with fail
                go_roundw
                case rel =>
                  refine ⟨k + 1, by go_num, by omega, Lib.hid ?_, HB⟩
                  rw [HST.out]; exact HO.out
                case measure => simp [intOf]; omega
              · have hzb : (o != 0) = true := by rw [bne_iff_ne]; exact hz
                rw [if_neg hz] at hgo
                obtain ⟨hwo, jj, hjj, hjj0, hjj1⟩ := hnm hz
                clear hnm
                rw [hjj, Option.getD_some] at hgo
                rw [HSL.out] at hjj1
                obtain ⟨D, hown, hD⟩ := MapIs.below HM2.out HB.out
                have hD1 := (hD o hwo).2
                rw [hjj, Option.getD_some] at hD1
                have HK := Lib.hid (hkey hwo)
                have HD1 := Lib.hid hD1
                obtain ⟨ad2, hA2, q0, q1, q2, q3, q4, q5⟩ := at_T38 (Kd.C_below HC2.out HB.out) jj hjj0 hjj1
                injection hA2 with hA2
                subst hA2
                have q1' : wr.cell? ⟨(ad.add (jj.toNat * 6)).block, (ad.add (jj.toNat * 6)).off + 1, none⟩ = some (.int .i64 (rdI l0 jj).f1) := q1
                generalize (rdI l0 jj).f1 = bj at q1' hgo
                have hos : k < (outB l0 k).length := by rw [outB_len l0 k (by omega)]; exact hlt
                have hcl := Kd.R_celln (0 : Int) HO.out (k : Int) (by omega) (by omega)
                rw [rd_set_same _ k most hos] at hcl
                obtain ⟨hcell1, hcell2⟩ := hcl
                have hp := Kd.R_putg HO.out (k : Int) (mx2 most bj)
                rw [Int.toNat_natCast, set_set_int] at hp
                rw [Int.toNat_natCast] at hcell1 hcell2
                have hbl : (ad.add (jj.toNat * 6)).block < wr.heap.size := World.block_lt_of_cell? _ _ q0
                have hgl : g < wr.heap.size := World.block_lt_of_cell? _ _ hcell1
                clear hD hD1 hjj hz hwo q0 q1 q2 q3 q4 q5 hos
                by_cases hmx : most < bj
                · rw [show mx2 most bj = bj from if_pos hmx] at hp hgo
                  have HP := Lib.hid hp
                  have HGO := Lib.hid hgo
                  clear hp hgo
                  go_wp2_with (at_lookup; refine wpList_lookup_own_int _ rfl _ _ 41 rfl 3 3 .i64 law3 Try.underlying41 Try.underlying3 (zero3 _) B l0.length _ rfl hown _ _ rfl HK.out ?_; intro c hat hwc; obtain rfl : jj = c := (by have h_ := HD1.out.symm.trans hat; injection h_ with h_; injection h_); clear hat hwc)
                  go_still_tail 13, (by kernel_rfl)
                  go_wp2_with fail
                  go_roundg f
                  case rel => exact ⟨jj, bj, rfl, hjj0, hjj1, HGO, Lib.hid (Kd.R_drew HP.out.1), Lib.hid (below_drew (HB.out.setCell (p := ⟨g, k, none⟩) hg0 _))⟩
                  case measure => omega
                · rw [show mx2 most bj = most from if_neg hmx] at hp hgo
                  have HP := Lib.hid hp
                  have HGO := Lib.hid hgo
                  clear hp hgo
                  go_wp2_with (at_lookup; refine wpList_lookup_own_int _ rfl _ _ 41 rfl 3 3 .i64 law3 Try.underlying41 Try.underlying3 (zero3 _) B l0.length _ rfl hown _ _ rfl HK.out ?_; intro c hat hwc; obtain rfl : jj = c := (by have h_ := HD1.out.symm.trans hat; injection h_ with h_; injection h_); clear hat hwc)
                  go_still_tail 13, (by kernel_rfl)
                  go_wp2_with fail
                  go_roundg f
                  case rel => exact ⟨jj, most, rfl, hjj0, hjj1, HGO, Lib.hid (Kd.R_drew HP.out.1), Lib.hid (below_drew (HB.out.setCell (p := ⟨g, k, none⟩) hg0 _))⟩
                  case measure => omega
        · obtain rfl : l0.length = k := by omega
          have HO5 : Hid (Kd.R (Kd.int .i64) 3 wr w.heap.size (fun _ => True) (.slice (some ⟨g, 0, none⟩) l0.length cap) (bandsV l0)) := Lib.hid (by rw [← outB_all]; exact Kd.R_lower HO.out hB2)
          have HB5 := Lib.hid (HB2.out.trans (HB.out.mono hB2))
          clear HO HB
          go_wp2_with fail
          go_ret
          exact ⟨_, rfl, HO5.out, HB5.out⟩
  · have hL := HL.out
    have hN := HN0.out
    have hRR := HRR.out
    rw [if_neg hchk] at hL hRR
    subst hL
    subst hRR
    obtain rfl : 0 = N := hN
    clear hchk HO2 HOK HW HC HL HN0 HRR
    go_wp2_with (at_make; refine Kd.R_make (Kd.int .i64) (w0 := w2) w2.heap.size 3 rfl (N := 14) rfl 27 (.tmp 13) (.tmp 13) rfl (0 : Int) rfl rfl Try.underlying27 (.int .i64 0) 8 info3 rfl (by decide) (by omega) (0 : Int) (ok := fun _ => True) (okp := fun _ => True) rfl (fun _ h => h) trivial (by omega) (by decide) (Below.refl _ _) (Nat.le_refl _) ?_; intro v3 w3 ho hb hg hat)
    have ho3 : Kd.R (Kd.int .i64) 3 w3 w2.heap.size (fun _ => True) v3 [] := ho
    have HO3 := Lib.hid (Kd.R_lower ho3 hB2)
    have HB3 := Lib.hid (HB2.out.trans (hb.mono hB2))
    clear ho hb hg hat ho3 HB2
    obtain ⟨A3, c3, rfl⟩ := Kd.R_slice HO3.out
    refine wp_loop_rounds 1 ?_
    rw [rounds_succ]
    go_wp2
    go_ret
    exact ⟨_, rfl, HO3.out, HB3.out⟩

theorem order_Bands.calls (A0 : Option Addr) (c0 : Nat) (l0 : List It) (r : List Int) (w : World) (hr0 : Kd.C k38 w A0 l0.length l0) (hc0 : l0.length ≤ c0) (h : order_Bands.f l0 = some r) :
    Calls Try.prog 14 #[.slice A0 l0.length c0] w fun e w' => ∃ v0_ : Value, e = .returned (v0_) ∧ Kd.R (Kd.int .i64) 3 w' w.heap.size (fun _ => True) v0_ r ∧ Below w.heap.size w w' := by
  unfold order_Bands.f order_Check.f at h
  split at h
  · rename_i hw
    rw [Option.bind_some] at h
    have e : (if l0.length > 128 then 2 else chkL [] l0) = chkV l0 := rfl
    rw [e] at h
    by_cases hc : chkV l0 = 0
    · rw [if_pos hc] at h
      split at h
      · rename_i hok
        obtain rfl := Option.some.inj h
        have := bands_any A0 c0 l0 w hr0 hw (fun _ => hok)
        rw [if_pos hc] at this
        exact this
      · exact absurd h (by simp)
    · rw [if_neg hc] at h
      obtain rfl := Option.some.inj h
      have := bands_any A0 c0 l0 w hr0 hw (fun h => absurd h hc)
      rw [if_neg hc] at this
      exact this
  · exact absurd h (by simp)
end Go.Proofs.Ytplchdlcolepmaa.P
