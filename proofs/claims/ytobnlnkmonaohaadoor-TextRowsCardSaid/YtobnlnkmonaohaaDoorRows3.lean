/-
  cartularylaw03.TextRows: its walk where a text is not read, and where both are too long.
-/
import Derived.Test.YtobnlnkmonaohaaDoorRows2
import Derived.Test.YtobnlnkmonaohaaDoorSame
namespace Go.Proofs.YtobnlnkmonaohaaDoor
open Go.RowKit

theorem isAt3 (S : Nat → Addr) (w : World) (v : Value) (z : Int) (hB : Base S w) (h : ErrAt S w v 3 (some z)) :
    Calls Tryd.prog 24 #[v, .int .i64 3, .int .i64 z] w fun e w' => e = .returned (.bool true) ∧ Below w.heap.size w w' := by
  refine (isAt_any S w v 3 (some z) 3 z hB h).mono ?_
  rintro _ w' ⟨rfl, hb⟩
  exact ⟨ret_bool (by simp [isAtB]), hb⟩
theorem data_app (s t : ByteArray) : (s ++ t).data.toList = s.data.toList ++ t.data.toList := by simp
theorem size_app (s t : ByteArray) : (s ++ t).size = s.size + t.size := by simp

set_option maxHeartbeats 2000000 in
set_option maxRecDepth 100000 in
theorem rows_far (S : Nat → Addr) (s t : ByteArray) (w : World) (hs : s.size ≤ 140737488351232) (ht : t.size ≤ 140737488351232) (hbig : 1048576 < s.size + t.size) (hB : Base S w) :
    Calls Tryd.prog 5 #[.string s, .string t] w fun e w' => e = .returned (.bool true) ∧ Below w.heap.size w w' := by
  have HB := Lib.hid hB
  clear hB
  go_enter Tryd.func5, Tryd.ntmps5
  go_wp2_with fail
  refine (alive_any S _ HB.out).mono ?_
  rintro e w1 ⟨rfl, b1⟩
  go_wp2_with fail
  go_ret
  exact ⟨rfl, b1⟩

set_option maxHeartbeats 2000000 in
set_option maxRecDepth 100000 in
theorem rows_bad2 (S : Nat → Addr) (s t : ByteArray) (w : World) (hn : s.size + t.size ≤ 1048576) (ht : ¬ okL t.data.toList) (hB : Base S w) (hs : okL s.data.toList) :
    Calls Tryd.prog 5 #[.string s, .string t] w fun e w' => e = .returned (.bool true) ∧ Below w.heap.size w w' := by
  have hne : t.data.toList ≠ [] := fun e => ht (fun h => absurd e h)
  have hst : ¬ okL (s ++ t).data.toList := by rw [data_app, okL_app hne]; exact ht
  have hsz := size_app s t
  have L1 := Lib.hid (fun W h => lines_ok S s W hs (by omega) h)
  have L2 := Lib.hid (fun W h => lines_bad S t W ht (by omega) h)
  have L3 := Lib.hid (fun W h => lines_bad S (s ++ t) W hst (by omega) h)
  rw [hsz] at L3
  have HB := Lib.hid hB
  clear hB ht hst hs hne
  go_enter Tryd.func5, Tryd.ntmps5
  go_wp2_with fail
  refine (L1.out _ HB.out).mono ?_
  rintro e w1 ⟨v1, rfl, ht1, b1⟩
  have B1 := Lib.hid (HB.out.below b1)
  clear ht1
  go_wp2_with fail
  refine (L2.out _ B1.out).mono ?_
  rintro e w2 ⟨v2, p2, rfl, he2, b2⟩
  have B2 := Lib.hid (B1.out.below b2)
  have E2 := Lib.hid he2
  clear he2
  go_wp2_with fail
  refine (L3.out _ B2.out).mono ?_
  rintro e w3 ⟨v3, p3, rfl, he3, b3⟩
  have B3 := Lib.hid (B2.out.below b3)
  have E3 := Lib.hid he3
  have E2' := Lib.hid (E2.out.below b3)
  clear he3
  go_wp2_with fail
  refine (isAt3 S _ _ _ B3.out E2'.out).mono ?_
  rintro e w4 ⟨rfl, b4⟩
  have B4 := Lib.hid (B3.out.below b4)
  have E4 := Lib.hid (E3.out.below b4)
  go_wp2_with fail
  refine (isAt3 S _ _ _ B4.out E4.out).mono ?_
  rintro e w5 ⟨rfl, b5⟩
  have B5 := Lib.hid (B4.out.below b5)
  go_wp2_with fail
  refine (alive_any S _ B5.out).mono ?_
  rintro e w6 ⟨rfl, b6⟩
  go_wp2_with fail
  go_ret
  exact ⟨rfl, below_trans (below_trans (below_trans (below_trans (below_trans b1 b2) b3) b4) b5) b6⟩

set_option maxHeartbeats 2000000 in
set_option maxRecDepth 100000 in
theorem rows_bad4 (S : Nat → Addr) (s t : ByteArray) (w : World) (hn : s.size + t.size ≤ 1048576) (ht : ¬ okL t.data.toList) (hs : ¬ okL s.data.toList) (hB : Base S w) :
    Calls Tryd.prog 5 #[.string s, .string t] w fun e w' => e = .returned (.bool true) ∧ Below w.heap.size w w' := by
  have hne : t.data.toList ≠ [] := fun e => ht (fun h => absurd e h)
  have hst : ¬ okL (s ++ t).data.toList := by rw [data_app, okL_app hne]; exact ht
  have hsz := size_app s t
  have L1 := Lib.hid (fun W h => lines_bad S s W hs (by omega) h)
  have L2 := Lib.hid (fun W h => lines_bad S t W ht (by omega) h)
  have L3 := Lib.hid (fun W h => lines_bad S (s ++ t) W hst (by omega) h)
  rw [hsz] at L3
  have HB := Lib.hid hB
  clear hB ht hst hs hne
  go_enter Tryd.func5, Tryd.ntmps5
  go_wp2_with fail
  refine (L1.out _ HB.out).mono ?_
  rintro e w1 ⟨v1, p1, rfl, ht1, b1⟩
  have B1 := Lib.hid (HB.out.below b1)
  clear ht1
  go_wp2_with fail
  refine (L2.out _ B1.out).mono ?_
  rintro e w2 ⟨v2, p2, rfl, he2, b2⟩
  have B2 := Lib.hid (B1.out.below b2)
  have E2 := Lib.hid he2
  clear he2
  go_wp2_with fail
  refine (L3.out _ B2.out).mono ?_
  rintro e w3 ⟨v3, p3, rfl, he3, b3⟩
  have B3 := Lib.hid (B2.out.below b3)
  have E3 := Lib.hid he3
  have E2' := Lib.hid (E2.out.below b3)
  clear he3
  go_wp2_with fail
  refine (isAt3 S _ _ _ B3.out E2'.out).mono ?_
  rintro e w4 ⟨rfl, b4⟩
  have B4 := Lib.hid (B3.out.below b4)
  have E4 := Lib.hid (E3.out.below b4)
  go_wp2_with fail
  refine (isAt3 S _ _ _ B4.out E4.out).mono ?_
  rintro e w5 ⟨rfl, b5⟩
  have B5 := Lib.hid (B4.out.below b5)
  go_wp2_with fail
  refine (alive_any S _ B5.out).mono ?_
  rintro e w6 ⟨rfl, b6⟩
  go_wp2_with fail
  go_ret
  exact ⟨rfl, below_trans (below_trans (below_trans (below_trans (below_trans b1 b2) b3) b4) b5) b6⟩

set_option maxHeartbeats 2000000 in
set_option maxRecDepth 100000 in
theorem rows_bad1 (S : Nat → Addr) (s t : ByteArray) (w : World) (hn : s.size + t.size ≤ 1048576) (hs : ¬ okL s.data.toList) (ht0 : t.size = 0) (hB : Base S w) :
    Calls Tryd.prog 5 #[.string s, .string t] w fun e w' => e = .returned (.bool true) ∧ Below w.heap.size w w' := by
  obtain rfl : t = ⟨#[]⟩ := by
    cases t with | mk a => congr 1; exact Array.eq_empty_of_size_eq_zero ht0
  have hst : ¬ okL (s ++ (⟨#[]⟩ : ByteArray)).data.toList := by rw [data_app]; simpa using hs
  have L1 := Lib.hid (fun W h => lines_bad S s W hs (by omega) h)
  have L2 := Lib.hid (fun W h => lines_ok S ⟨#[]⟩ W (fun h => absurd rfl h) (by decide) h)
  have L3 := Lib.hid (fun W h => lines_bad S (s ++ (⟨#[]⟩ : ByteArray)) W hst (by rw [size_app]; omega) h)
  rw [size_app] at L3
  have HB := Lib.hid hB
  clear hB hst hs ht0
  go_enter Tryd.func5, Tryd.ntmps5
  go_wp2_with fail
  refine (L1.out _ HB.out).mono ?_
  rintro e w1 ⟨v1, p1, rfl, he1, b1⟩
  have B1 := Lib.hid (HB.out.below b1)
  clear he1
  go_wp2_with fail
  refine (L2.out _ B1.out).mono ?_
  rintro e w2 ⟨v2, rfl, ht2, b2⟩
  have B2 := Lib.hid (B1.out.below b2)
  clear ht2
  go_wp2_with fail
  refine (L3.out _ B2.out).mono ?_
  rintro e w3 ⟨v3, p3, rfl, he3, b3⟩
  have B3 := Lib.hid (B2.out.below b3)
  have E3 := Lib.hid he3
  clear he3
  go_wp2_with fail
  refine (isAt3 S _ _ _ B3.out E3.out).mono ?_
  rintro e w4 ⟨rfl, b4⟩
  have B4 := Lib.hid (B3.out.below b4)
  go_wp2_with fail
  refine (alive_any S _ B4.out).mono ?_
  rintro e w6 ⟨rfl, b6⟩
  go_wp2_with fail
  go_ret
  exact ⟨rfl, below_trans (below_trans (below_trans (below_trans b1 b2) b3) b4) b6⟩

set_option maxHeartbeats 2000000 in
set_option maxRecDepth 100000 in
theorem rows_bad3 (S : Nat → Addr) (s t : ByteArray) (w : World) (hn : s.size + t.size ≤ 1048576) (hs : ¬ okL s.data.toList) (ht : okL t.data.toList) (ht0 : t.size ≠ 0) (hB : Base S w) :
    Calls Tryd.prog 5 #[.string s, .string t] w fun e w' => e = .returned (.bool true) ∧ Below w.heap.size w w' := by
  have hne : t.data.toList ≠ [] := fun e => ht0 (by rw [← size_list, e]; rfl)
  have hst : okL (s ++ t).data.toList := by rw [data_app, okL_app hne]; exact ht
  have hsz := size_app s t
  have hemp : t.toList.isEmpty = false := by rw [ByteArray.toList_eq]; cases hq : t.data.toList with | nil => exact absurd hq hne | cons _ _ => rfl
  have hemp2 : ¬ t.toList = [] := fun e => by rw [e] at hemp; cases hemp
  have L1 := Lib.hid (fun W h => lines_bad S s W hs (by omega) h)
  have L2 := Lib.hid (fun W h => lines_ok S t W ht (by omega) h)
  have L3 := Lib.hid (fun W h => lines_ok S (s ++ t) W hst (by omega) h)
  have HB := Lib.hid hB
  clear hB hst hs ht hne
  go_enter Tryd.func5, Tryd.ntmps5
  go_wp2_with fail
  refine (L1.out _ HB.out).mono ?_
  rintro e w1 ⟨v1, p1, rfl, he1, b1⟩
  have B1 := Lib.hid (HB.out.below b1)
  clear he1
  go_wp2_with fail
  refine (L2.out _ B1.out).mono ?_
  rintro e w2 ⟨v2, rfl, ht2, b2⟩
  have B2 := Lib.hid (B1.out.below b2)
  clear ht2
  go_wp2_with fail
  refine (L3.out _ B2.out).mono ?_
  rintro e w3 ⟨v3, rfl, ht3, b3⟩
  have B3 := Lib.hid (B2.out.below b3)
  clear ht3
  go_wp2_with fail
  refine (alive_any S _ B3.out).mono ?_
  rintro e w6 ⟨rfl, b6⟩
  go_wp2_with fail
  go_ret
  exact ⟨rfl, below_trans (below_trans (below_trans b1 b2) b3) b6⟩
end Go.Proofs.YtobnlnkmonaohaaDoor
