/-
  PROVED: cartularylaw21.CheckpointWrong returns true, whatever the two texts (the tied card of its row). Conditions: those of the row: each text takes at most the bytes that the form allows; the listed package-level variables hold what the program lays.
-/
import Derived.Test.YtjmgkallgflcdaaDoorCkAlive
import Derived.Test.YtjmgkallgflcdaaDoorCkLead
import Derived.Test.YtjmgkallgflcdaaDoorCheckpointWrongFrame
namespace Go.Proofs.YtjmgkallgflcdaaDoor
open Go.RowKit

abbrev faultV (b : Nat) : Value := .iface 59 (.pointer (some ⟨b, 0, none⟩))
theorem fault_of {S : Nat → Addr} {w : World} {v : Value} {c : Nat} {z : Int} (h : ErrAt S w v c (some z)) : ∃ b, v = faultV b := by
  rcases h with ⟨_, _, h⟩ | ⟨_, _, _, h⟩ | ⟨_, _, b, _, h, _⟩
  · cases h
  · cases h
  · exact ⟨b, h⟩
theorem ext_list (s : ByteArray) (k : Nat) : (s.extract 0 k).data.toList = s.data.toList.take k := by simp [List.extract_eq_take_drop]
theorem app_list (s t : ByteArray) : (s ++ t).data.toList = s.data.toList ++ t.data.toList := by simp
theorem wrong_text (s m : ByteArray) (p b r : List UInt8) (h : s.data.toList = p ++ (b ++ 10 :: r)) : (s.extract 0 (p.length + b.length + 1) ++ m).data.toList = p ++ (b ++ 10 :: m.data.toList) := by
  have e : p ++ (b ++ 10 :: r) = (p ++ b ++ [10]) ++ r := by simp
  have hl : (p ++ b ++ [10]).length = p.length + b.length + 1 := by simp; omega
  rw [app_list, ext_list, h, e, List.take_left' hl]
  simp
theorem isAt_yes (S : Nat → Addr) (w : World) (v : Value) (k : Nat) (hB : Base S w) (h : ErrAt S w v 3 (some (k : Int))) :
    Calls Tryd.prog 15 #[v, .int .i64 3, .int .i64 (k : Int)] w fun e w' => e = .returned (.bool true) ∧ Below w.heap.size w w' := by
  refine (isAt_any S w v 3 (some (k : Int)) 3 (k : Int) hB h).mono ?_
  rintro e w' ⟨rfl, hb⟩
  exact ⟨ret_bool (by simp [isAtB]), hb⟩
/-- The three texts that are put behind. -/
def restB (k : Nat) : ByteArray := ⟨((restL.getD k []) ++ [10]).toArray⟩
def restCells : Array Value := #[.string ⟨#[97, 10]⟩, .string ⟨#[53, 10]⟩, .string ⟨#[65, 65, 65, 65, 65, 65, 65, 65, 65, 65, 65, 65, 65, 65, 65, 65, 65, 65, 65, 65, 65, 65, 65, 65, 65, 65, 65, 65, 65, 65, 65, 65, 65, 65, 65, 65, 65, 65, 65, 65, 65, 65, 65, 61, 10]⟩]
theorem restCells_at (k : Nat) (h : k < 3) : restCells[k]? = some (.string (restB k)) := by
  rcases (show k = 0 ∨ k = 1 ∨ k = 2 by omega) with rfl | rfl | rfl <;> rfl
theorem rest_next (n k : Nat) (hn : n ≤ k) (hk : k < 3) : fed ((restL.take (k + 1)).drop n) = fed ((restL.take k).drop n) ++ (restB k).data.toList := by
  have h3 : restL.length = 3 := rfl
  have e : restL.take (k + 1) = restL.take k ++ [restL.getD k []] := by
    rw [List.take_add_one, List.getElem?_eq_getElem (by omega), List.getD_eq_getElem?_getD, List.getElem?_eq_getElem (by omega)]
    rfl
  rw [e, List.drop_append_of_le_length (by rw [List.length_take]; omega), fed_app, fed_cons, fed_nil]
  simp [restB]

set_option maxHeartbeats 1000000 in
set_option maxRecDepth 100000 in
theorem ckw_big (S : Nat → Addr) (s m : ByteArray) (w : World) (hs : s.size ≤ 140737488351232) (hm : m.size ≤ 140737488351232) (hbig : 900000 < s.size + m.size) (hB : Base S w) (htab : Tab w) :
    Calls Tryd.prog 4 #[.string s, .string m] w fun e w' => e = .returned (.bool true) ∧ Below w.heap.size w w' := by
  have HL := Lib.hid (alive21_any S w hB htab)
  clear hB htab
  go_enter Tryd.func4, Tryd.ntmps4
  go_wp2_with fail
  refine HL.out.mono ?_
  rintro e w1 ⟨rfl, b1⟩
  go_wp2_with fail
  go_ret
  exact ⟨rfl, b1⟩

set_option maxHeartbeats 4000000 in
set_option maxRecDepth 100000 in
theorem ckw_small (S : Nat → Addr) (s m : ByteArray) (w : World) (hsm : s.size + m.size ≤ 900000) (hB : Base S w) (htab : Tab w) :
    Calls Tryd.prog 4 #[.string s, .string m] w fun e w' => e = .returned (.bool true) ∧ Below w.heap.size w w' := by
  have HB := Lib.hid hB
  have HTAB := Lib.hid htab
  have HS := Lib.hid (size_list s)
  have HM := Lib.hid (size_list m)
  have HP := Lib.hid (parse_any S s w (by omega) hB)
  clear hB htab
  go_enter Tryd.func4, Tryd.ntmps4
  go_wp2_with fail
  refine HP.out.mono ?_
  rintro e w1 ⟨cs, ev, rfl, b1, he, hz, hv⟩
  by_cases hc : (parseCk s.data.toList).2.1 = 0
  · obtain rfl := he.eq_nil hc
    obtain ⟨h35, hone, _⟩ := ckVal_parts (hv hc)
    have b2 : Below w1.heap.size w1 (w1.alloc (.cells cs 27)) := (Below.refl _ _).alloc (Nat.le_refl _) _
    have d2 := below_trans b1 b2
    have H35 := Lib.hid h35
    have HONE := Lib.hid hone
    clear h35 hone he hz hv hc b1 b2
    go_wp2_with (first | (refine wpList_ck (by rfl) (.tmp 5) (.tmp 26) (by rfl) (by rfl) (by rfl) H35.out HONE.out ?_))
    generalize w1.alloc (.cells cs 27) = w2 at *
    refine (alive21_any S w2 (HB.out.below d2) (tab_below HTAB.out d2)).mono ?_
    rintro e w3 ⟨rfl, b3⟩
    go_wp2_with fail
    go_ret
    exact ⟨rfl, below_trans d2 b3⟩
  · obtain ⟨n, ls, b, t, h19, hA, hlen, hl, hno, hnb, ht, ⟨st, hgood⟩, hbad⟩ := ck_wrong s.data.toList (by rw [HS.out]; omega) hc
    obtain rfl := hz hc
    rw [hA] at he
    obtain ⟨fb, rfl⟩ := fault_of he
    have b2 : Below w1.heap.size w1 (w1.alloc (.cells ckZero 27)) := (Below.refl _ _).alloc (Nat.le_refl _) _
    have d2 := below_trans b1 b2
    have HE2 := Lib.hid (he.below b2)
    have HGOOD := Lib.hid hgood
    have HBAD := Lib.hid hbad
    have HL := Lib.hid hl
    have HNO := Lib.hid hno
    have HNB := Lib.hid hnb
    have HT := Lib.hid ht
    clear he hz hv hc b1 b2 hA hgood hbad hl hno hnb ht
    subst hlen
    go_wp2_with (first | (refine wpList_ck (by rfl) (.tmp 5) (.tmp 26) (by rfl) (by rfl) (by rfl) zero_size zero_one ?_))
    generalize w1.alloc (.cells ckZero 27) = w2 at *
    refine (at_any S w2 _ 3 (some (ls.length : Int)) (HB.out.below d2) HE2.out).mono ?_
    rintro e w3 ⟨rfl, b3⟩
    simp only [Option.getD_some, Option.isSome_some]
    have d3 := below_trans d2 b3
    have HE3 := Lib.hid (HE2.out.below b3)
    clear b3
    go_wp2_with fail
    refine (isAt_yes S w3 _ ls.length (HB.out.below d3) HE3.out).mono ?_
    rintro e w4 ⟨rfl, b4⟩
    have d4 := below_trans d3 b4
    clear b4
    have i1 : ¬ (ls.length : Int) < 0 := by omega
    have i2 : ¬ (19 : Int) < (ls.length : Int) := by omega
    go_wp2_with fail
    refine (lead_any s w4 ls b t HL.out (by omega) HNO.out HNB.out HT.out h19).mono ?_
    rintro e w5 ⟨rfl, b5⟩
    have d5 := below_trans d4 b5
    clear b5
    have hlen : (fed ls).length + b.length + t.length = s.size := by
      rw [← HS.out, HL.out]
      simp only [List.length_append]
      omega
    have hpre : s.data.toList.take (fed ls).length = fed ls := by rw [HL.out, List.take_left]
    have hP : (fed ls).length ≤ s.size := by omega
    have HLEN := Lib.hid hlen
    have HPRE := Lib.hid hpre
    have hPI : ((fed ls).length : Int) ≤ (s.size : Int) := by omega
    clear hlen hpre
    go_wp2_with fail
    go_loopw [12, 13] (fun vx vk wr => ∃ (k : Nat) (x : ByteArray), ls.length ≤ k ∧ (k ≤ 3 ∨ k = ls.length) ∧ vx = .string x ∧ vk = .int .i64 k ∧ x.data.toList = fed ls ++ fed ((restL.take k).drop ls.length) ∧ Below (w5.alloc (.cells restCells 46)).heap.size (w5.alloc (.cells restCells 46)) wr) (fun _ vk _ => 3 - (intOf vk).toNat)
    case atStart => exact ⟨ls.length, _, Nat.le_refl _, .inr rfl, rfl, rfl, by rw [ext_list, HPRE.out, List.drop_eq_nil_of_le (by rw [List.length_take]; omega), fed_nil, List.append_nil], Below.refl _ _⟩
    case round =>
      obtain ⟨k, x, hnk, hk3, rfl, rfl, hx, hbel⟩ := hrel
      have hrow := below_heap hbel (heap_alloc_new w5 (.cells restCells 46))
      have hbw : Below w5.heap.size w5 wr := ((Below.refl _ _).alloc (Nat.le_refl _) _).trans (hbel.mono (by simp))
      have d6 := below_trans d5 hbw
      have hxs : x.size ≤ 900049 := by
        rw [← size_list, hx, List.length_append]
        have h1 := rest_len ls.length
        have h2 : (fed ((restL.take k).drop ls.length)).length ≤ (fed (restL.drop ls.length)).length := by
          rcases Nat.lt_or_ge k 3 with h | h
          · have e : restL.drop ls.length = (restL.take k).drop ls.length ++ restL.drop k := by
              conv => lhs; rw [← List.take_append_drop k restL]
              rw [List.drop_append_of_le_length (by rw [List.length_take]; have h3 : restL.length = 3 := rfl; omega)]
            rw [e, fed_app, List.length_append]
            omega
          · rw [List.take_of_length_le (by simpa [restL] using h)]
            omega
        omega
      have HX := Lib.hid hx
      have HBEL := Lib.hid hbel
      clear hx hbw
      by_cases hlt : k < 3
      · have hki : (k : Int) < 3 := by omega
        have hcell : wr.cell? ⟨w5.heap.size, k, none⟩ = some (.string (restB k)) := by rw [cell_of_row _ _ k _ _ _ hrow, restCells_at k hlt]
        have hrs : (restB k).size ≤ 45 := by
          rcases (show k = 0 ∨ k = 1 ∨ k = 2 by omega) with rfl | rfl | rfl <;> decide
        have hsz : (x ++ restB k).size ≤ 1048576 := by
          rw [← size_list, app_list, List.length_append, size_list, size_list]; omega
        have HNEW : RowKit.Hid ((x ++ restB k).data.toList = fed ls ++ fed ((restL.take (k + 1)).drop ls.length)) := by
          rw [app_list, HX.out, rest_next ls.length k hnk hlt, List.append_assoc]
          exact rfl
        generalize restB k = rb at *
        clear hrow
        go_wp2_with fail
        go_roundw
        case rel => exact ⟨k + 1, _, by omega, .inl (by omega), rfl, by go_num, HNEW.out, HBEL.out⟩
        case measure => simp [intOf]; omega
      · have hki : ¬ (k : Int) < 3 := by omega
        have hx2 := HX.out
        rw [List.take_of_length_le (by simpa [restL] using hlt)] at hx2
        have HP2 := Lib.hid (parse_any S x wr (by omega) (HB.out.below d6))
        clear hrow
        go_wp2_with fail
        refine HP2.out.mono ?_
        rintro e w7 ⟨cs, ev, rfl, b7, he, _, hv⟩
        rw [hx2, HGOOD.out] at he hv
        obtain rfl := he.eq_nil rfl
        obtain ⟨h35, hone, _⟩ := ckVal_parts (hv rfl)
        have b8 : Below w7.heap.size w7 (w7.alloc (.cells cs 27)) := (Below.refl _ _).alloc (Nat.le_refl _) _
        have d8 := below_trans (below_trans d6 b7) b8
        have H35 := Lib.hid h35
        have HONE := Lib.hid hone
        clear h35 hone he hv b7 b8 hx2
        rcases HT.out with rfl | ⟨r, rfl⟩
        · have i3 : (((fed ls).length : Int) + (b.length : Int) == (s.size : Int)) = true := by
            have := HLEN.out
            simp at this ⊢
            omega
          go_wp2_with (first | (refine wpList_ck (by rfl) (.tmp 14) (.tmp 78) (by rfl) (by rfl) (by rfl) H35.out HONE.out ?_))
          generalize w7.alloc (.cells cs 27) = w8 at *
          refine (alive21_any S w8 (HB.out.below d8) (tab_below HTAB.out d8)).mono ?_
          rintro e w9 ⟨rfl, b9⟩
          go_wp2_with fail
          go_ret
          exact ⟨rfl, below_trans d8 b9⟩
        · have hle : (fed ls).length + b.length + 1 ≤ s.size := by
            have := HLEN.out
            simp at this
            omega
          have i3 : (((fed ls).length : Int) + (b.length : Int) == (s.size : Int)) = false := by
            rw [beq_eq_false_iff_ne]
            omega
          have i4 : ((fed ls).length : Int) + (b.length : Int) + 1 ≤ (s.size : Int) := by omega
          have HEX := Lib.hid (wrong_text s m (fed ls) b r HL.out)
          have hms : (s.extract 0 ((fed ls).length + b.length + 1) ++ m).size ≤ 900000 := by
            rw [← size_list, HEX.out]
            simp
            omega
          have hbad := HBAD.out (by simp) m.data.toList (by rw [HM.out, HS.out]; omega)
          rw [← HEX.out] at hbad
          have HBD := Lib.hid hbad
          have HP3 := Lib.hid (parse_any S (s.extract 0 ((fed ls).length + b.length + 1) ++ m) (w7.alloc (.cells cs 27)) (by omega) (HB.out.below d8))
          clear hbad
          go_wp2_with (first | (refine wpList_ck (by rfl) (.tmp 14) (.tmp 78) (by rfl) (by rfl) (by rfl) H35.out HONE.out ?_))
          generalize w7.alloc (.cells cs 27) = w8 at *
          refine HP3.out.mono ?_
          rintro e w9 ⟨cs3, ev3, rfl, b9, he9, _, _⟩
          rw [HBD.out] at he9
          have d9 := below_trans d8 b9
          have HE9 := Lib.hid he9
          clear b9 he9
          go_wp2_with fail
          refine (isAt_yes S w9 _ ls.length (HB.out.below d9) HE9.out).mono ?_
          rintro e w10 ⟨rfl, b10⟩
          have d10 := below_trans d9 b10
          clear b10
          go_wp2_with fail
          refine (alive21_any S w10 (HB.out.below d10) (tab_below HTAB.out d10)).mono ?_
          rintro e w11 ⟨rfl, b11⟩
          go_wp2_with fail
          go_ret
          exact ⟨rfl, below_trans d10 b11⟩
theorem checkpointWrong_walk : CheckpointWrongFrame.Walk := fun S s m w hs hm hB hT => by
  by_cases h : 900000 < s.size + m.size
  · exact ckw_big S s m w hs hm h hB hT
  · exact ckw_small S s m w (by omega) hB hT
theorem checkpointWrong_card : Rows.CheckpointWrongCardSaid := CheckpointWrongFrame.card checkpointWrong_walk
end Go.Proofs.YtjmgkallgflcdaaDoor
