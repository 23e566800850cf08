/-
  What the given program's functions lex.quoted and lex.Quote, and the library's strings.IndexByte, compute: contracts of their calls over this seat's translation. Conditions: the text is at most 2^47 bytes long.
-/
import Derived.Test.YthlncjiapjahaaaShelf
import Derived.WalkKit
import Derived.BigCall
import Derived.Lib.Hide
import Derived.BigQuiet
import Derived.Deep.QuietTactic
import Derived.Test.YthlncjiapjahaaaWWords
namespace Go.Proofs.Ythlncjiapjahaaa.P
open Go.RowKit Go.Proofs.YthlncjiapjahaaaW.PrintWords

/-! ### strings.IndexByte -/
def strings_IndexByte.f (a0 : ByteArray) (a1 : Int) : Option Int := some (Lib.indexByte a0.data.toList a1.toNat.toUInt8)
theorem strings_IndexByte.calls (a0 : ByteArray) (a1 : Int) (r : Int) (w : World) (h : strings_IndexByte.f a0 a1 = some r) :
    Calls Try.prog 19 #[.string a0, .int .u8 a1] w fun e w' => e = .returned (.int .i64 r) ∧ Drawn0 w w' := by
  obtain rfl := Option.some.inj h
  refine (Try.strings_IndexByte a0 a1 w).mono ?_
  rintro e w' ⟨rfl, rfl⟩
  exact ⟨rfl, Drawn0.refl _⟩

/-! ### strings.Builder's methods that this translation bears -/
theorem infoB : (Try.prog.info? 46).map TypeInfo.size = some 2 := by kernel_rfl
theorem liesB : liesAt Try.prog Try.prog.depth 46 (2 / Try.prog.cellsOf 46) 0 46 1 = true := by kernel_rfl
theorem info5 : (Try.prog.info? 5).map (fun i => (i.zero, i.size, i.bytes)) = some (some (.int .u8 0), 1, 1) := by kernel_rfl

set_option maxHeartbeats 1000000 in
set_option maxRecDepth 100000 in
theorem copyCheck_used (b : Nat) (w : World) (h0 : w.cell? ⟨b, 0, none⟩ = some (.pointer (some ⟨b, 0, none⟩))) :
    Calls Try.prog 28 #[.pointer (some ⟨b, 0, none⟩)] w fun e w' => e = .returned (.tuple #[]) ∧ w' = w := by
  obtain ⟨j, hj, _⟩ := Option.map_eq_some_iff.1 infoB
  go_enter Try.func28, Try.ntmps28
  go_wp2
  rw [Lib.run_neq_ptr_same w _ Try.underlying43 hj]
  go_wp2
  go_end0
  exact ⟨rfl, rfl⟩

set_option maxHeartbeats 1000000 in
set_option maxRecDepth 100000 in
theorem copyCheck_fresh (b : Nat) (w : World) (h0 : w.cell? ⟨b, 0, none⟩ = some (.pointer none)) (hsh : w.shape? b = some (46, 2)) (hfz : w.frozen? ⟨b, 0, none⟩ = false) :
    Calls Try.prog 28 #[.pointer (some ⟨b, 0, none⟩)] w fun e w' => e = .returned (.tuple #[]) ∧ w' = w.setCell ⟨b, 0, none⟩ (.pointer (some ⟨b, 0, none⟩)) := by
  obtain ⟨j, hj, hjs⟩ := Option.map_eq_some_iff.1 infoB
  go_enter Try.func28, Try.ntmps28
  go_wp2
  rw [Lib.run_to_unsafe w ⟨b, 0, none⟩ Try.underlying43 Try.underlying52 hj (by rw [hjs]; decide) hsh (Nat.zero_lt_succ 1)]
  simp only [Result.andThen]
  rw [Oper.upon_value]
  go_wp2
  rw [run_callFunc_extern Try.func30 (by kernel_rfl) (by kernel_rfl) (by kernel_rfl) (e := Extern.AbiNoEscape.same) (by kernel_rfl)]
  rw [Lib.run_noEscape]
  simp only [Result.andThen]
  rw [Oper.upon_value]
  go_wp2
  rw [Lib.run_from_unsafe w ⟨b, 0, none⟩ Try.underlying52 Try.underlying43 hj hsh liesB]
  simp only [Result.andThen]
  rw [Oper.upon_value]
  go_wp2
  go_end0
  exact ⟨rfl, rfl⟩

theorem copyCheck_any (B b : Nat) (bs : List Value) (w : World) (h : Lib.IsBuilder 46 5 B b bs w) :
    Calls Try.prog 28 #[.pointer (some ⟨b, 0, none⟩)] w fun e w' => e = .returned (.tuple #[]) ∧ (Lib.BuilderAt 46 5 B b (.pointer (some ⟨b, 0, none⟩)) bs w' ∧ Below B w w') := by
  rcases h with h | h
  · refine (copyCheck_fresh b w h.cell0 h.shape h.frozen0).mono ?_
    rintro e w' ⟨rfl, rfl⟩
    exact ⟨rfl, h.used _, (Below.refl B w).setCell (p := ⟨b, 0, none⟩) h.1 _⟩
  · refine (copyCheck_used b w h.cell0).mono ?_
    rintro e w' ⟨rfl, rfl⟩
    exact ⟨rfl, h, Below.refl B _⟩

set_option maxHeartbeats 2000000 in
set_option maxRecDepth 100000 in
theorem writeByte_any (B b : Nat) (bs : List Value) (c : Int) (w : World) (h : Lib.IsBuilder 46 5 B b bs w) (hlen : bs.length + 1 ≤ 140737488355328) (hBw : B ≤ w.heap.size) :
    Calls Try.prog 24 #[.pointer (some ⟨b, 0, none⟩), .int .u8 c] w fun e w' => e = .returned .nilIface ∧ (Lib.BuilderAt 46 5 B b (.pointer (some ⟨b, 0, none⟩)) (bs ++ [.int .u8 c]) w' ∧ Below B w w') := by
  obtain ⟨i0, hi, hz0, hz1, hz2⟩ := info_parts info5
  go_enter Try.func24, Try.ntmps24
  go_wp2_with (go_at_call 28; refine (copyCheck_any B b bs _ h).mono ?_)
  rintro e w1 ⟨rfl, h1, hb1⟩
  obtain ⟨hB, v, hbk, hown, hne⟩ := h1
  have c0 : w1.cell? ⟨b, 0, none⟩ = some (.pointer (some ⟨b, 0, none⟩)) := by rw [Lib.cell_of_heap hbk]; rfl
  have c1 : w1.cell? ⟨b, 1, none⟩ = some v := by rw [Lib.cell_of_heap hbk]; rfl
  go_wp2_with (at_builtin; refine wpList_append_own _ rfl _ _ 44 rfl B 5 i0 (.int .u8 0) 1 1 Try.underlying44 hi hz0 hz1 hz2 rfl (by decide) _ _ _ rfl (hown.alloc _) ⟨w1.heap.size, 0, none⟩ 1 1 [.int .u8 c] rfl rfl ?c1 ?c2 ?c3 ?c4 ?c5 ?_)
  case c1 =>
    intro j u hj
    match j, hj with
    | 0, hj => simp at hj; subst hj; simp [Addr.add]
  case c2 => intro u hu; simp at hu; subst hu; rfl
  case c3 => unfold maxLen; omega
  case c4 => omega
  case c5 => have := hb1.size; simp; omega
  intro v' w2 hown' hgrow _
  have hlt : b < w1.heap.size := by
    rcases Nat.lt_or_ge b w1.heap.size with h' | h'
    · exact h'
    · simp [Array.getElem?_eq_none h'] at hbk
  have hb2 : w2.heap[b]? = some (.cells #[.pointer (some ⟨b, 0, none⟩), v] 46 (0, 0)) := by
    rw [hgrow.block b (by simp; omega) (fun e => hne e.symm), Lib.alloc_old w1 _ b hlt]
    exact hbk
  have d0 : w2.cell? ⟨b, 0, none⟩ = some (.pointer (some ⟨b, 0, none⟩)) := by rw [Lib.cell_of_heap hb2]; rfl
  have d1 : w2.cell? ⟨b, 1, none⟩ = some v := by rw [Lib.cell_of_heap hb2]; rfl
  have f1 : w2.frozen? ⟨b, 1, none⟩ = false := Lib.frozen_of_heap hb2 1
  obtain ⟨g, cap, rfl⟩ : ∃ g cap, v' = .slice (some ⟨g, 0, none⟩) (bs.length + 1) cap := by
    rcases hown'.2 with ⟨_, h0⟩ | ⟨g, cap, cur, hv, _⟩
    · omega
    · exact ⟨g, cap, hv⟩
  go_wp2
  go_ret
  refine ⟨rfl, ?_, ?_⟩
  · exact Lib.BuilderAt.put (T := 46) (e := 5) hB hb2 (bs' := bs ++ [.int .u8 c]) (by simpa using hown') (by decide)
  · exact ((hb1.alloc (by have := hb1.size; omega) _).grown hgrow (by have := hb1.size; simp; omega) (fun k hk => (hown.lt k hk).1)).setCell (p := ⟨b, 1, none⟩) hB _

/-! ### lex.quoted -/
/-- what is left of a text in quotes, behind i bytes, with what has been read -/
def quotedL : List UInt8 → List UInt8 → Nat → List UInt8 × Int × Int
  | [], _, _ => ([], 0, 181)
  | c :: l, acc, i =>
    if c = 34 then (acc, (i : Int) + 1, 0)
    else if c < 32 ∨ 127 ≤ c then ([], i, 180)
    else if c = 92 then
      match l with
      | [] => ([], i, 181)
      | d :: l' => if d = 34 ∨ d = 92 then quotedL l' (acc ++ [d]) (i + 2) else ([], i, 181)
    else quotedL l (acc ++ [c]) (i + 1)
theorem drop_cons (s : ByteArray) (k : Nat) (h : k < s.size) : s.data.toList.drop k = s[k] :: s.data.toList.drop (k + 1) := by
  rw [List.drop_eq_getElem_cons (by simpa using h)]; rfl
theorem quotedL_quote {l acc i} : quotedL (34 :: l) acc i = (acc, (i : Int) + 1, 0) := by unfold quotedL; rfl
theorem quotedL_bad {c : UInt8} {l acc i} (h : c < 32 ∨ 127 ≤ c) : quotedL (c :: l) acc i = ([], (i : Int), 180) := by
  rw [quotedL.eq_def]; simp only
  rw [if_neg (by rintro rfl; revert h; decide), if_pos h]
theorem quotedL_end {acc i} : quotedL [92] acc i = ([], (i : Int), 181) := by unfold quotedL; rfl
theorem quotedL_esc {d : UInt8} {l acc i} (h : d = 34 ∨ d = 92) : quotedL (92 :: d :: l) acc i = quotedL l (acc ++ [d]) (i + 2) := by
  rw [quotedL.eq_def]; simp only
  rw [if_neg (by decide), if_neg (by decide), if_pos trivial, if_pos h]
theorem quotedL_noesc {d : UInt8} {l acc i} (h : ¬ (d = 34 ∨ d = 92)) : quotedL (92 :: d :: l) acc i = ([], (i : Int), 181) := by
  rw [quotedL.eq_def]; simp only
  rw [if_neg (by decide), if_neg (by decide), if_pos trivial, if_neg h]
theorem quotedL_other {c : UInt8} {l acc i} (h1 : c ≠ 34) (h2 : ¬ (c < 32 ∨ 127 ≤ c)) (h3 : c ≠ 92) : quotedL (c :: l) acc i = quotedL l (acc ++ [c]) (i + 1) := by
  rw [quotedL.eq_def]; simp only
  rw [if_neg h1, if_neg h2, if_neg h3]

theorem seen_yes (c : Int) (w : World) (h1 : 32 ≤ c) (h2 : c < 127) : Calls Try.prog 26 #[.int .u8 c] w fun e w' => e = .returned (.bool true) ∧ w = w' := by
  go_enter Try.func26, Try.ntmps26
  go_wp2
  go_ret
  exact ⟨rfl, rfl⟩
theorem seen_low (c : Int) (w : World) (h1 : c < 32) : Calls Try.prog 26 #[.int .u8 c] w fun e w' => e = .returned (.bool false) ∧ w = w' := by
  go_enter Try.func26, Try.ntmps26
  go_wp2
  go_ret
  exact ⟨rfl, rfl⟩
theorem seen_high (c : Int) (w : World) (h1 : 32 ≤ c) (h2 : 127 ≤ c) : Calls Try.prog 26 #[.int .u8 c] w fun e w' => e = .returned (.bool false) ∧ w = w' := by
  have h3 : decide (c < 127) = false := by simp; omega
  go_enter Try.func26, Try.ntmps26
  go_wp2
  go_ret
  exact ⟨rfl, rfl⟩
theorem seen_no (c : Int) (w : World) (h : c < 32 ∨ 127 ≤ c) : Calls Try.prog 26 #[.int .u8 c] w fun e w' => e = .returned (.bool false) ∧ w = w' := by
  by_cases h1 : c < 32
  · exact seen_low c w h1
  · exact seen_high c w (by omega) (by omega)

set_option maxHeartbeats 2000000 in
set_option maxRecDepth 100000 in
theorem quoted_any (s : ByteArray) (w : World) (hs : s.size ≤ 140737488351232) :
    Calls Try.prog 18 #[.string s] w fun e w' => e = .returned (.tuple #[.string ⟨(quotedL (s.data.toList.drop 1) [] 1).1.toArray⟩, .int .i64 (quotedL (s.data.toList.drop 1) [] 1).2.1, .int .i64 (quotedL (s.data.toList.drop 1) [] 1).2.2]) ∧ Below w.heap.size w w' := by
  generalize hR : quotedL (s.data.toList.drop 1) [] 1 = R
  have HR := Lib.hid hR
  clear hR
  go_enter Try.func18, Try.ntmps18
  go_wp2
  go_loopw [6] (fun i wr => ∃ (k : Nat) (acc : List UInt8), 1 ≤ k ∧ i = .int .i64 k ∧ k ≤ s.size + 1 ∧ Lib.IsBuilder 46 5 w.heap.size w.heap.size (Lib.byteCells acc) wr ∧ Below w.heap.size w wr ∧ acc.length ≤ k ∧ Hid (quotedL (s.data.toList.drop k) acc k = R)) (fun i _ => s.size + 1 - (intOf i).toNat)
  case atStart =>
    exact ⟨1, [], by omega, rfl, by omega, Lib.fresh_isBuilder _ _ w, (Below.refl _ w).alloc (Nat.le_refl _) _, by simp, HR⟩
  case round =>
    obtain ⟨k, acc, hk1, rfl, hk, hI, hB, hal, HQ⟩ := hrel
    have hsz := hB.size
    by_cases hlt : k < s.size
    · have hd := drop_cons s k hlt
      generalize hu : s[k] = u at hd
      have hx : ∀ h : k < s.size, ((s[k]'h).toNat : Int) = (u.toNat : Int) := fun h => by rw [hu]
      have Hd := Lib.hid hd
      clear hd hu
      have hub : u.toNat < 256 := u.toNat_lt
      have hub2 : (0 : Int) ≤ (u.toNat : Int) := by omega
      by_cases h34 : u = 34
      · subst h34
        rw [Hd.out, quotedL_quote] at HQ
        obtain rfl := HQ.out
        clear HQ HR Hd
        have ht : ((34 : UInt8).toNat : Int) = 34 := rfl
        rw [ht] at hx
        clear ht hub hub2
        go_wp2_with (go_at_call 25; refine (Try.Builder_String_any w.heap.size w.heap.size acc _ hI hsz).mono ?_; rintro e W1 ⟨rfl, b1⟩)
        go_ret3
        exact ⟨rfl, hB.trans b1⟩
      · have n34 : ((u.toNat : Int) == 34) = false := by
          rw [beq_eq_false_iff_ne]; intro h; exact h34 (UInt8.toNat_inj.mp (by show u.toNat = 34; omega))
        by_cases hbad : u < 32 ∨ 127 ≤ u
        · rw [Hd.out, quotedL_bad hbad] at HQ
          obtain rfl := HQ.out
          have hb2 : (u.toNat : Int) < 32 ∨ 127 ≤ (u.toNat : Int) := by
            rcases hbad with h | h
            · exact .inl (by have := UInt8.lt_iff_toNat_lt.mp h; simp at this; omega)
            · exact .inr (by have := UInt8.le_iff_toNat_le.mp h; simp at this; omega)
          clear HQ HR Hd hbad
          go_wp2_with (go_at_call 26; refine (seen_no (u.toNat : Int) _ hb2).mono ?_; rintro e W1 ⟨rfl, rfl⟩)
          go_ret3
          exact ⟨rfl, hB⟩
        · have g1 : 32 ≤ (u.toNat : Int) := by
            have : ¬ u < 32 := fun h => hbad (.inl h)
            rw [UInt8.lt_iff_toNat_lt] at this; simp at this; omega
          have g2 : (u.toNat : Int) < 127 := by
            have : ¬ 127 ≤ u := fun h => hbad (.inr h)
            rw [UInt8.le_iff_toNat_le] at this; simp at this; omega
          by_cases h92 : u = 92
          · subst h92
            have ht : ((92 : UInt8).toNat : Int) = 92 := rfl
            rw [ht] at hx
            clear ht hub hub2 n34 g1 g2
            by_cases hl2 : k + 1 < s.size
            · have hd2 := drop_cons s (k + 1) hl2
              generalize hu2 : s[k + 1] = d at hd2
              have hx2 : ∀ h : k + 1 < s.size, ((s[k + 1]'h).toNat : Int) = (d.toNat : Int) := fun h => by rw [hu2]
              have Hd2 := Lib.hid hd2
              clear hd2 hu2
              have hkl : (((k + 1 : Nat) : Int) == (s.size : Int)) = false := by rw [beq_eq_false_iff_ne]; omega
              have hkl2 : ((k : Int) + 1 == (s.size : Int)) = false := by rw [beq_eq_false_iff_ne]; omega
              have hdb : d.toNat < 256 := d.toNat_lt
              by_cases hq : d = 34 ∨ d = 92
              · rw [Hd.out, Hd2.out, quotedL_esc hq] at HQ
                clear Hd Hd2
                have hdv : (d.toNat : Int) = 34 ∨ (d.toNat : Int) = 92 := by rcases hq with rfl | rfl <;> simp
                clear hq
                rcases hdv with hdv | hdv
                all_goals
                  have n1 : ((d.toNat : Int) != 34) = true ∨ ((d.toNat : Int) != 34) = false := by cases ((d.toNat : Int) != 34) <;> simp
                  rw [hdv] at hx2 n1
                  have hdv' : Hid ((d.toNat : Int) = _) := Lib.hid hdv
                  clear n1 hdv hdb
                  go_wp2_with (first | (go_at_call 26; refine (seen_yes 92 _ (by omega) (by omega)).mono ?_; rintro e W1 ⟨rfl, rfl⟩) | (go_at_call 24; refine (writeByte_any w.heap.size w.heap.size _ _ _ hI (by rw [Lib.byteCells_length]; omega) hsz).mono ?_; rintro e W1 ⟨rfl, hI1, b1⟩))
                  go_roundw
                  case rel =>
                    exact ⟨k + 2, acc ++ [d], by omega, by go_num, by omega, by rw [Lib.byteCells_append]; refine Or.inr ?_; simp only [Lib.byteCells, List.map_cons, List.map_nil]; rw [hdv'.out]; exact hI1, hB.trans b1, by simp; omega, HQ⟩
                  case measure => simp [intOf]; omega
              · rw [Hd.out, Hd2.out, quotedL_noesc hq] at HQ
                obtain rfl := HQ.out
                clear HQ HR Hd Hd2
                have n1 : ((d.toNat : Int) != 34) = true := by
                  rw [bne_iff_ne]; intro h; exact hq (.inl (UInt8.toNat_inj.mp (by show d.toNat = 34; omega)))
                have n2 : ((d.toNat : Int) != 92) = true := by
                  rw [bne_iff_ne]; intro h; exact hq (.inr (UInt8.toNat_inj.mp (by show d.toNat = 92; omega)))
                clear hq
                go_wp2_with (go_at_call 26; refine (seen_yes 92 _ (by omega) (by omega)).mono ?_; rintro e W1 ⟨rfl, rfl⟩)
                go_ret3
                exact ⟨by first | rfl | (congr 3; simp; done) | (simp; done) | (simp; omega), hB⟩
            · have hkl : (((k + 1 : Nat) : Int) == (s.size : Int)) = true := by rw [beq_iff_eq]; omega
              have hkl2 : ((k : Int) + 1 == (s.size : Int)) = true := by rw [beq_iff_eq]; omega
              have h0 : s.data.toList.drop (k + 1) = [] := List.drop_of_length_le (by have : s.data.toList.length = s.size := (by simp); omega)
              rw [Hd.out, h0, quotedL_end] at HQ
              obtain rfl := HQ.out
              clear HQ HR Hd h0
              go_wp2_with (go_at_call 26; refine (seen_yes 92 _ (by omega) (by omega)).mono ?_; rintro e W1 ⟨rfl, rfl⟩)
              go_ret3
              exact ⟨by first | rfl | (congr 3; simp; done) | (simp; done) | (simp; omega), hB⟩
          · have n92 : ((u.toNat : Int) == 92) = false := by
              rw [beq_eq_false_iff_ne]; intro h; exact h92 (UInt8.toNat_inj.mp (by show u.toNat = 92; omega))
            rw [Hd.out, quotedL_other h34 hbad h92] at HQ
            clear Hd hbad h34 h92
            go_wp2_with (first | (go_at_call 26; refine (seen_yes (u.toNat : Int) _ g1 g2).mono ?_; rintro e W1 ⟨rfl, rfl⟩) | (go_at_call 24; refine (writeByte_any w.heap.size w.heap.size _ (u.toNat : Int) _ hI (by rw [Lib.byteCells_length]; omega) hsz).mono ?_; rintro e W1 ⟨rfl, hI1, b1⟩))
            go_roundw
            case rel =>
              exact ⟨k + 1, acc ++ [u], by omega, by go_num, by omega, by rw [Lib.byteCells_append]; exact Or.inr hI1, hB.trans b1, by simp; omega, HQ⟩
            case measure => simp [intOf]; omega
    · have h0 : s.data.toList.drop k = [] := List.drop_of_length_le (by have : s.data.toList.length = s.size := (by simp); omega)
      rw [h0] at HQ
      obtain rfl := HQ.out
      clear HQ HR h0
      go_wp2
      go_ret3
      exact ⟨rfl, hB⟩

def lex_quoted.f (a0 : ByteArray) : Option (ByteArray × Int × Int) :=
  if a0.size ≤ 140737488351232 then some (⟨(quotedL (a0.data.toList.drop 1) [] 1).1.toArray⟩, (quotedL (a0.data.toList.drop 1) [] 1).2.1, (quotedL (a0.data.toList.drop 1) [] 1).2.2) else none
theorem lex_quoted.calls (a0 : ByteArray) (r1 : ByteArray) (r2 : Int) (r3 : Int) (w : World) (h : lex_quoted.f a0 = some (r1, r2, r3)) :
    Calls Try.prog 18 #[.string a0] w fun e w' => e = .returned (.tuple #[.string r1, .int .i64 r2, .int .i64 r3]) ∧ Below w.heap.size w w' := by
  unfold lex_quoted.f at h
  split at h
  · rename_i hs
    simp only [Option.some.injEq, Prod.mk.injEq] at h
    obtain ⟨rfl, rfl, rfl⟩ := h
    exact quoted_any a0 w hs
  · exact absurd h (by simp)

/-! ### lex.Quote -/
def quoteL : List UInt8 → List UInt8
  | [] => []
  | c :: l => if c = 34 ∨ c = 92 then 92 :: c :: quoteL l else c :: quoteL l
theorem quoteL_append (l : List UInt8) (c : UInt8) : quoteL (l ++ [c]) = quoteL l ++ (if c = 34 ∨ c = 92 then [92, c] else [c]) := by
  induction l with
  | nil => simp [quoteL]
  | cons x l ih => simp only [List.cons_append, quoteL, ih]; split <;> simp
theorem quoteL_le (l : List UInt8) : (quoteL l).length ≤ 2 * l.length := by
  induction l with
  | nil => simp [quoteL]
  | cons x l ih => simp only [quoteL]; split <;> simp <;> omega
theorem take_one (s : ByteArray) (k : Nat) (h : k < s.size) : s.data.toList.take (k + 1) = s.data.toList.take k ++ [s[k]] := by
  rw [List.take_succ_eq_append_getElem (by simpa using h)]; rfl

set_option maxHeartbeats 2000000 in
set_option maxRecDepth 100000 in
theorem Quote_any (s : ByteArray) (w : World) (hs : s.size ≤ 70368744177600) :
    Calls Try.prog 14 #[.string s] w fun e w' => e = .returned (.string ⟨(34 :: (quoteL s.data.toList ++ [34])).toArray⟩) ∧ Below w.heap.size w w' := by
  go_enter Try.func14, Try.ntmps14
  go_wp2_with (go_at_call 24; refine (writeByte_any w.heap.size w.heap.size [] 34 _ (Lib.fresh_isBuilder _ _ w) (by simp) (by simp)).mono ?_)
  rintro e W1 ⟨rfl, hI1, b1⟩
  have hB1 : Below w.heap.size w W1 := ((Below.refl _ w).alloc (Nat.le_refl _) _).trans b1
  clear b1
  go_wp2_with fail
  go_loopw [8] (fun i wr => ∃ (k : Nat), i = .int .i64 k ∧ k ≤ s.size ∧ Lib.IsBuilder 46 5 w.heap.size w.heap.size (Lib.byteCells (34 :: quoteL (s.data.toList.take k))) wr ∧ Below w.heap.size w wr) (fun i _ => s.size + 1 - (intOf i).toNat)
  case atStart =>
    exact ⟨0, rfl, by omega, Or.inr hI1, hB1⟩
  case round =>
    obtain ⟨k, rfl, hk, hI, hB⟩ := hrel
    have hsz := hB.size
    clear hI1 hB1
    by_cases hlt : k < s.size
    · have hd := take_one s k hlt
      have hql := quoteL_le (s.data.toList.take k)
      have hlen : (s.data.toList.take k).length ≤ k := List.length_take_le _ _
      generalize hu : s[k] = u at hd
      have hx : ∀ h : k < s.size, ((s[k]'h).toNat : Int) = (u.toNat : Int) := fun h => by rw [hu]
      have Hd := Lib.hid hd
      clear hd hu
      have hub : u.toNat < 256 := u.toNat_lt
      generalize hT : quoteL (s.data.toList.take k) = T at hI hql
      have HT := Lib.hid hT
      clear hT
      have hTl : T.length ≤ 2 * k := by omega
      clear hql hlen
      by_cases hq : u = 34 ∨ u = 92
      · have hdv : (u.toNat : Int) = 34 ∨ (u.toNat : Int) = 92 := by rcases hq with rfl | rfl <;> simp
        rcases hdv with hdv | hdv
        all_goals
          rw [hdv] at hx
          have hdv' : Hid ((u.toNat : Int) = _) := Lib.hid hdv
          have Hq := Lib.hid hq
          clear hdv hub hq
          go_wp2_with (go_at_call 24; refine (writeByte_any w.heap.size w.heap.size _ _ _ hI (by rw [Lib.byteCells_length]; simp; omega) hsz).mono ?_)
          rintro e W1 ⟨rfl, hI1, b1⟩
          have hsz1 := b1.size
          have hI2 : Lib.IsBuilder 46 5 w.heap.size w.heap.size (Lib.byteCells (34 :: T ++ [92])) W1 := by rw [Lib.byteCells_append]; exact Or.inr hI1
          clear hI1
          go_wp2_with (go_at_call 24; refine (writeByte_any w.heap.size w.heap.size _ _ _ hI2 (by rw [Lib.byteCells_length]; simp; omega) (by omega)).mono ?_)
          rintro e W2 ⟨rfl, hI3, b2⟩
          go_wp2_with fail
          go_roundw
          case rel =>
            refine ⟨k + 1, by go_num, by omega, ?_, (hB.trans b1).trans b2⟩
            rw [Hd.out, quoteL_append, if_pos Hq.out, HT.out]
            have e1 : (34 :: (T ++ [92, u])) = (34 :: T ++ [92]) ++ [u] := by simp
            rw [e1, Lib.byteCells_append]
            refine Or.inr ?_
            simp only [Lib.byteCells, List.map_cons, List.map_nil] at hI3 ⊢; rw [hdv'.out]; exact hI3
          case measure => simp [intOf]; omega
      · have n1 : ((u.toNat : Int) == 34) = false := by
          rw [beq_eq_false_iff_ne]; intro h; exact hq (.inl (UInt8.toNat_inj.mp (by show u.toNat = 34; omega)))
        have n2 : ((u.toNat : Int) == 92) = false := by
          rw [beq_eq_false_iff_ne]; intro h; exact hq (.inr (UInt8.toNat_inj.mp (by show u.toNat = 92; omega)))
        have Hq := Lib.hid hq
        clear hub hq
        go_wp2_with (go_at_call 24; refine (writeByte_any w.heap.size w.heap.size _ _ _ hI (by rw [Lib.byteCells_length]; simp; omega) hsz).mono ?_)
        rintro e W1 ⟨rfl, hI1, b1⟩
        go_wp2_with fail
        go_roundw
        case rel =>
          refine ⟨k + 1, by go_num, by omega, ?_, hB.trans b1⟩
          rw [Hd.out, quoteL_append, if_neg Hq.out, HT.out]
          rw [← List.cons_append, Lib.byteCells_append]
          exact Or.inr hI1
        case measure => simp [intOf]; omega
    · have h0 : s.data.toList.take k = s.data.toList := List.take_of_length_le (by have : s.data.toList.length = s.size := (by simp); omega)
      rw [h0] at hI
      have hql := quoteL_le s.data.toList
      have hlen : s.data.toList.length = s.size := by simp
      rw [hlen] at hql
      generalize hT : quoteL s.data.toList = T at hI hql
      have HT := Lib.hid hT
      clear h0 hlen hT
      go_wp2_with (go_at_call 24; refine (writeByte_any w.heap.size w.heap.size _ 34 _ hI (by rw [Lib.byteCells_length]; simp; omega) hsz).mono ?_)
      rintro e W1 ⟨rfl, hI1, b1⟩
      have hsz1 := b1.size
      have hI2 : Lib.IsBuilder 46 5 w.heap.size w.heap.size (Lib.byteCells (34 :: (T ++ [34]))) W1 := by rw [← List.cons_append, Lib.byteCells_append]; exact Or.inr hI1
      clear hI1
      go_wp2_with (go_at_call 25; refine (Try.Builder_String_any w.heap.size w.heap.size _ _ hI2 (by omega)).mono ?_)
      rintro e W2 ⟨rfl, b2⟩
      go_wp2
      go_ret
      exact ⟨by rw [HT.out]; rfl, (hB.trans b1).trans b2⟩

def lex_Quote.f (a0 : ByteArray) : Option ByteArray :=
  if a0.size ≤ 70368744177600 then some ⟨(34 :: (quoteL a0.data.toList ++ [34])).toArray⟩ else none
theorem lex_Quote.calls (a0 : ByteArray) (r : ByteArray) (w : World) (h : lex_Quote.f a0 = some r) :
    Calls Try.prog 14 #[.string a0] w fun e w' => e = .returned (.string r) ∧ Below w.heap.size w w' := by
  unfold lex_Quote.f at h
  split at h
  · rename_i hs
    obtain rfl := Option.some.inj h
    exact Quote_any a0 w hs
  · exact absurd h (by simp)
end Go.Proofs.Ythlncjiapjahaaa.P
