/-
  What slices.Index, slices.Contains, the closure that tells whether a thing is free, and slices.IndexFunc compute here. Contracts of their calls over this seat's translation. Conditions: the lists are no longer than 128.
-/
import Derived.Test.YtplchdlcolepmaaExtSmall
import Derived.Shelf.Abstract
namespace Go.Proofs.Ytplchdlcolepmaa.P
open Go.RowKit Go.Maps Go.Sort Go.Shelf Go.Proofs.Ytplchdlcolepmaa.M Go.Proofs.YtplchdlcolepmaaW.PrintWords Go.Proofs.YtplchdlcolepmaaW.PrintLast
set_option linter.unusedVariables false
set_option linter.unusedSimpArgs false

/-- the first place at which something holds, counted on from a number; -1 -/
def firstP (p : Int → Bool) : List Int → Int → Int
  | [], _ => -1
  | x :: l, i => if p x then i else firstP p l (i + 1)
theorem firstP_none (p : Int → Bool) : ∀ (l : List Int) (i : Int), 0 ≤ i → (firstP p l i < 0 ↔ ∀ x ∈ l, p x = false) ∧ (0 ≤ firstP p l i → i ≤ firstP p l i ∧ firstP p l i < i + l.length) := by
  intro l
  induction l with
  | nil => intro i h; exact ⟨⟨fun _ x hx => absurd hx (by simp), fun _ => by simp [firstP]⟩, fun h => absurd h (by simp [firstP])⟩
  | cons y l ih =>
    intro i h
    rw [firstP]
    cases hp : p y with
    | true =>
      rw [if_pos rfl]
      refine ⟨⟨fun h' => by omega, fun h' => ?_⟩, fun _ => by simp; omega⟩
      have := h' y (by simp); rw [hp] at this; cases this
    | false =>
      rw [if_neg (by simp)]
      obtain ⟨h1, h2⟩ := ih (i + 1) (by omega)
      refine ⟨h1.trans ⟨fun h' x hx => ?_, fun h' x hx => h' x (by simp [hx])⟩, fun h3 => by have := h2 h3; simp; omega⟩
      rcases List.mem_cons.mp hx with rfl | hx
      · exact hp
      · exact h' x hx
theorem elem_at {w : World} {A : Option Addr} {xs : List Int} (h : Kd.C (Kd.int .i64) w A xs.length xs) (k : Nat) (hlt : k < xs.length) : ∃ ad : Addr, A = some ad ∧ w.cell? (ad.add k) = some (.int .i64 xs[k]) := by
  obtain ⟨ad, hA, hcell0⟩ := ReadsOf.at_ (Kd.reads_of_C (d := (0 : Int)) h) (k : Int) (by omega) (by omega)
  rw [Int.toNat_natCast] at hcell0
  have hx : rdOf (0 : Int) xs (k : Int) = xs[k] := by
    unfold rdOf; rw [Int.toNat_natCast, List.getD_eq_getElem?_getD, List.getElem?_eq_getElem hlt]; rfl
  rw [hx] at hcell0
  exact ⟨ad, hA, hcell0⟩

theorem index_same (A : Option Addr) (c : Nat) (xs : List Int) (y : Int) (n : Nat) (hn : xs.length = n) (w : World) (hr : Kd.C (Kd.int .i64) w A xs.length xs) (hlen : n ≤ 128) :
    Calls Try.prog 39 #[.slice A n c, .int .i64 y] w fun e w' => e = .returned (.int .i64 (firstP (fun x => y == x) xs 0)) ∧ w' = w := by
  generalize hR : firstP (fun x => y == x) xs 0 = R
  have HR := Lib.hid hR
  have HC := Lib.hid hr
  have HN := Lib.hid hn
  clear hR hr hn
  go_enter Try.func39, Try.ntmps39
  go_wp2
  go_loop [8] (fun i => ∃ k : Nat, i = .int .i64 k ∧ k ≤ n ∧ Hid (firstP (fun x => y == x) (xs.drop k) k = R)) (fun i => n + 1 - (intOf i).toNat)
  case atStart => exact ⟨0, rfl, by omega, HR⟩
  case round =>
    clear HR
    obtain ⟨k, rfl, hk, HS⟩ := hrel
    by_cases hlt : k < n
    · have hlt' : k < xs.length := by rw [HN.out]; exact hlt
      obtain ⟨ad, hA, hcell⟩ := elem_at HC.out k hlt'
      subst hA
      have hs := HS.out
      rw [List.drop_eq_getElem_cons hlt', firstP] at hs
      clear HS
      generalize xs[k] = x at hcell hs
      by_cases hz : (y == x) = true
      · rw [if_pos hz] at hs
        subst hs
        go_wp2
        go_ret
        exact ⟨rfl, rfl⟩
      · rw [if_neg hz] at hs
        have hz' : (y == x) = false := by simpa using hz
        have HS := Lib.hid hs
        clear hs hz
        go_wp2
        go_round
        case rel => exact ⟨k + 1, by go_num, by omega, HS⟩
        case measure => simp [intOf]; omega
    · have hs := HS.out
      obtain rfl : n = k := by omega
      rw [List.drop_of_length_le (by rw [HN.out]; omega), firstP] at hs
      subst hs
      clear HS
      go_wp2
      go_ret
      exact ⟨rfl, rfl⟩
theorem contains_same (A : Option Addr) (c : Nat) (xs : List Int) (y : Int) (n : Nat) (hn : xs.length = n) (w : World) (hr : Kd.C (Kd.int .i64) w A xs.length xs) (hlen : n ≤ 128) :
    Calls Try.prog 32 #[.slice A n c, .int .i64 y] w fun e w' => e = .returned (.bool (decide (y ∈ xs))) ∧ w' = w := by
  have hi := index_same A c xs y n hn w hr hlen
  obtain ⟨h1, h2⟩ := firstP_none (fun x => y == x) xs 0 (by omega)
  have hm : (y ∈ xs) ↔ 0 ≤ firstP (fun x => y == x) xs 0 := by
    rw [← Int.not_lt, h1]
    constructor
    · intro h h'; have := h' y h; simp at this
    · intro h
      by_cases hy : y ∈ xs
      · exact hy
      · exact absurd (fun x hx => by rw [beq_eq_false_iff_ne]; rintro rfl; exact hy hx) h
  have hb : decide (y ∈ xs) = decide (firstP (fun x => y == x) xs 0 ≥ 0) := by rw [Bool.eq_iff_iff]; simp only [decide_eq_true_eq]; exact hm
  rw [hb]
  clear h1 h2 hm hb hr
  generalize firstP (fun x => y == x) xs 0 = r at hi ⊢
  go_enter Try.func32, Try.ntmps32
  go_wp2_with (go_at_call 39; refine hi.mono ?_; rintro e w' ⟨rfl, rfl⟩)
  go_ret
  exact ⟨rfl, rfl⟩

/-! ### is a thing free -/
def freeB (os out : List Int) (i : Int) : Bool := decide (rd os i = 0) || decide (rd os i ∈ out)
set_option maxHeartbeats 4000000 in
set_option maxRecDepth 100000 in
theorem free_any (p5 p9 : Nat) (A5 A9 : Option Addr) (c5 c9 : Nat) (os out : List Int) (n m : Nat) (hn : os.length = n) (hm : out.length = m) (hlen : m ≤ 128) (i : Int) (hi0 : 0 ≤ i) (hi1 : i < n) (w : World)
    (b5 : w.cell? ⟨p5, 0, none⟩ = some (.slice A5 n c5)) (b9 : w.cell? ⟨p9, 0, none⟩ = some (.slice A9 m c9)) (h5 : Kd.C (Kd.int .i64) w A5 os.length os) (h9 : Kd.C (Kd.int .i64) w A9 out.length out) :
    Calls Try.prog 31 #[.int .i64 i, .pointer (some ⟨p5, 0, none⟩), .pointer (some ⟨p9, 0, none⟩)] w fun e w' => e = .returned (.bool (freeB os out i)) ∧ ∃ q, w' = w.drewN q := by
  obtain ⟨ad5, hA5, hc5⟩ := ReadsOf.at_ (Kd.reads_of_C (d := (0 : Int)) h5) i hi0 (by omega)
  subst hA5
  have hc : w.cell? (ad5.add i.toNat) = some (.int .i64 (rd os i)) := hc5
  unfold freeB
  have H9 := Lib.hid h9
  have HM := Lib.hid hm
  have HN := Lib.hid hn
  clear hc5 h5 h9 hm hn
  generalize rd os i = o at hc ⊢
  by_cases hz : o = 0
  · subst hz
    go_enter Try.func31, Try.ntmps31
    go_wp2
    refine wp_region_still_lit (by kernel_rfl) (by kernel_rfl) ?_
    repeat (refine wpStill_step (fun K hK => ?_); go_simp; refine hK _ ?_; clear hK K)
    refine wpStill_nil ?_
    go_wp2
    go_ret
    exact ⟨rfl, 1, rfl⟩
  · have hzb : (o == 0) = false := by rw [beq_eq_false_iff_ne]; exact hz
    have hd : (decide (o = 0) || decide (o ∈ out)) = decide (o ∈ out) := by simp [hz]
    rw [hd]
    have hcon := contains_same A9 c9 out o m HM.out (w.drewN 1) (Kd.C_drewN H9.out 1) hlen
    clear hd hz
    generalize decide (o ∈ out) = b at hcon ⊢
    go_enter Try.func31, Try.ntmps31
    go_wp2
    refine wp_region_still_lit (by kernel_rfl) (by kernel_rfl) ?_
    repeat (first
      | (refine wpStill_step (fun K hK => ?_); go_simp; refine hK _ ?_; clear hK K)
      | (refine wpStill_step (fun K hK => ?_); go_simp; refine ⟨_, hcon, hK _ ?_⟩; clear hK K))
    refine wpStill_nil ?_
    go_wp2
    go_ret
    exact ⟨rfl, 1, rfl⟩

/-! ### slices.IndexFunc over it -/
set_option maxHeartbeats 4000000 in
set_option maxRecDepth 100000 in
theorem indexFunc_any (p5 p9 : Nat) (A5 A9 : Option Addr) (c5 c9 : Nat) (os out : List Int) (n m : Nat) (hn : os.length = n) (hm : out.length = m) (hlen : m ≤ 128) (w : World)
    (b5 : w.cell? ⟨p5, 0, none⟩ = some (.slice A5 n c5)) (b9 : w.cell? ⟨p9, 0, none⟩ = some (.slice A9 m c9)) (h5 : Kd.C (Kd.int .i64) w A5 os.length os) (h9 : Kd.C (Kd.int .i64) w A9 out.length out)
    (A7 : Option Addr) (c7 : Nat) (todo : List Int) (t : Nat) (ht : todo.length = t) (htl : t ≤ 128) (h7 : Kd.C (Kd.int .i64) w A7 todo.length todo) (hin : ∀ x ∈ todo, 0 ≤ x ∧ x < n) :
    Calls Try.prog 30 #[.slice A7 t c7, .func (.func 31) #[] #[.pointer (some ⟨p5, 0, none⟩), .pointer (some ⟨p9, 0, none⟩)]] w fun e w' => e = .returned (.int .i64 (firstP (freeB os out) todo 0)) ∧ ∃ q, w' = w.drewN q := by
  generalize hR : firstP (freeB os out) todo 0 = R
  have hfree := fun (i : Int) (h0 : 0 ≤ i) (h1 : i < n) (q : Nat) => free_any p5 p9 A5 A9 c5 c9 os out n m hn hm hlen i h0 h1 (w.drewN q) b5 b9 (Kd.C_drewN h5 q) (Kd.C_drewN h9 q)
  have HR := Lib.hid hR
  have HC := Lib.hid h7
  have HT := Lib.hid ht
  have HF := Lib.hid hfree
  have HI := Lib.hid hin
  clear hR h7 ht hfree hin b5 b9 h5 h9
  go_enter Try.func30, Try.ntmps30
  go_wp2
  go_loopw [8] (fun i wr => ∃ k q : Nat, i = .int .i64 k ∧ k ≤ t ∧ wr = w.drewN q ∧ Hid (firstP (freeB os out) (todo.drop k) k = R)) (fun i _ => t + 1 - (intOf i).toNat)
  case atStart => exact ⟨0, 0, rfl, by omega, rfl, HR⟩
  case round =>
    clear HR
    obtain ⟨k, q, rfl, hk, rfl, HS⟩ := hrel
    by_cases hlt : k < t
    · have hlt' : k < todo.length := by rw [HT.out]; exact hlt
      obtain ⟨ad, hA, hcell⟩ := elem_at HC.out k hlt'
      subst hA
      have hs := HS.out
      rw [List.drop_eq_getElem_cons hlt', firstP] at hs
      have hx := HI.out todo[k] (List.getElem_mem hlt')
      clear HS
      generalize todo[k] = x at hcell hs hx
      have hcall := HF.out x hx.1 hx.2
      by_cases hz : freeB os out x = true
      · rw [if_pos hz] at hs
        subst hs
        rw [hz] at hcall
        clear hz hx
        go_wp2_with (go_at_call 31; refine (hcall _).mono ?_; rintro e w' ⟨rfl, q', rfl⟩)
        go_ret
        exact ⟨rfl, _, rfl⟩
      · rw [if_neg hz] at hs
        have hz' : freeB os out x = false := by simpa using hz
        rw [hz'] at hcall
        have HS := Lib.hid hs
        clear hs hz hz' hx
        go_wp2_with (go_at_call 31; refine (hcall _).mono ?_; rintro e w' ⟨rfl, q', rfl⟩)
        go_roundw
        case rel => exact ⟨k + 1, _, by go_num, by omega, rfl, HS⟩
        case measure => simp [intOf]; omega
    · have hs := HS.out
      obtain rfl : t = k := by omega
      rw [List.drop_of_length_le (by rw [HT.out]; omega), firstP] at hs
      subst hs
      clear HS
      go_wp2
      go_ret
      exact ⟨rfl, q, rfl⟩
end Go.Proofs.Ytplchdlcolepmaa.P
