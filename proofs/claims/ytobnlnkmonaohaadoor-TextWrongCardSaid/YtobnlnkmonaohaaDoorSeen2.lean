/-
  cartularylaw03.TextSeen: its walk.
-/
import Derived.Test.YtobnlnkmonaohaaDoorSeen
import Derived.Test.YtobnlnkmonaohaaDoorAlive
namespace Go.Proofs.YtobnlnkmonaohaaDoor
open Go.RowKit
theorem data_app2 (s t : ByteArray) : (s ++ t).data.toList = s.data.toList ++ t.data.toList := by simp
theorem size_app2 (s t : ByteArray) : (s ++ t).size = s.size + t.size := by simp
theorem name_at (S : Nat → Addr) (s : ByteArray) (b : Bool) (h : nameOf s.data.toList = b) (hs : s.size ≤ 9223372036854775807) (w : World) (hB : Base S w) :
    Calls Tryd.prog 19 #[.string s] w fun e w' => e = .returned (.bool b) ∧ Below w.heap.size w w' := by
  rw [← h]; exact name_any S s w hs hB
theorem plain_at (S : Nat → Addr) (s : ByteArray) (b : Bool) (h : plainOf s.data.toList = b) (hs : s.size ≤ 9223372036854775807) (w : World) (hB : Base S w) :
    Calls Tryd.prog 21 #[.string s] w fun e w' => e = .returned (.bool b) ∧ Below w.heap.size w w' := by
  rw [← h]; exact plain_any S s w hs hB
theorem data_mid (s t : ByteArray) (c : UInt8) : (s ++ ⟨#[c]⟩ ++ t).data.toList = s.data.toList ++ c :: t.data.toList := by simp
theorem size_mid (s t : ByteArray) (c : UInt8) (hs : s.size ≤ 140737488351232) (ht : t.size ≤ 140737488351232) : (s ++ ⟨#[c]⟩ ++ t).size ≤ 9223372036854775807 := by
  rw [size_app2, size_app2]; show s.size + 1 + t.size ≤ _; omega

set_option maxHeartbeats 4000000 in
set_option maxRecDepth 100000 in
theorem seen_ff_true_long (S : Nat → Addr) (s t : ByteArray) (w : World) (hs : s.size ≤ 140737488351232) (ht : t.size ≤ 140737488351232) (hB : Base S w) (hx : nameOf s.data.toList = false) (hy : nameOf t.data.toList = true) (hl : 4096 < s.size) :
    Calls Tryd.prog 6 #[.string s, .string t] w fun e w' => e = .returned (.bool true) ∧ Below w.heap.size w w' := by
  have NX := name_at S s false hx (by omega)
  have NY := name_at S t true hy (by omega)
  have C1 := name_at S (s ++ ⟨#[32]⟩ ++ t) false (by rw [data_mid]; exact name_mid (by decide) (by decide) _ _) (size_mid s t 32 hs ht)
  have C2 := name_at S (s ++ ⟨#[43]⟩ ++ t) false (by rw [data_mid]; exact name_mid (by decide) (by decide) _ _) (size_mid s t 43 hs ht)
  have C3 := plain_at S (s ++ ⟨#[10]⟩ ++ t) false (by rw [data_mid]; exact plain_mid (by decide) (by decide) _ _) (size_mid s t 10 hs ht)
  have C4 := plain_at S (s ++ ⟨#[255]⟩ ++ t) false (by rw [data_mid]; exact plain_ff _ _) (size_mid s t 255 hs ht)
  have PL := plain_at S s false (plain_long (by rw [size_list]; exact hl)) (by omega)
  have HNX := Lib.hid NX
  clear NX
  have HNY := Lib.hid NY
  clear NY
  have HC1 := Lib.hid C1
  clear C1
  have HC2 := Lib.hid C2
  clear C2
  have HC3 := Lib.hid C3
  clear C3
  have HC4 := Lib.hid C4
  clear C4
  have HPL := Lib.hid PL
  clear PL
  clear hx hy
  have HB := Lib.hid hB
  clear hB
  go_enter Tryd.func6, Tryd.ntmps6
  go_wp2_with fail
  refine (HNX.out _ HB.out).mono ?_
  rintro e w1 ⟨rfl, b1⟩
  have B1 := Lib.hid (HB.out.below b1)
  go_wp2_with fail
  refine (HNY.out _ B1.out).mono ?_
  rintro e w2 ⟨rfl, b2⟩
  have B2 := Lib.hid (B1.out.below b2)
  go_wp2_with fail
  refine (HPL.out _ B2.out).mono ?_
  rintro e w3 ⟨rfl, b3⟩
  have B3 := Lib.hid (B2.out.below b3)
  go_wp2_with fail
  refine (HC1.out _ B3.out).mono ?_
  rintro e w4 ⟨rfl, b4⟩
  have B4 := Lib.hid (B3.out.below b4)
  go_wp2_with fail
  refine (HC2.out _ B4.out).mono ?_
  rintro e w5 ⟨rfl, b5⟩
  have B5 := Lib.hid (B4.out.below b5)
  go_wp2_with fail
  refine (HC3.out _ B5.out).mono ?_
  rintro e w6 ⟨rfl, b6⟩
  have B6 := Lib.hid (B5.out.below b6)
  go_wp2_with fail
  refine (HC4.out _ B6.out).mono ?_
  rintro e w7 ⟨rfl, b7⟩
  have B7 := Lib.hid (B6.out.below b7)
  go_wp2_with fail
  refine ((fun W h => alive_any S W h) _ B7.out).mono ?_
  rintro e w8 ⟨rfl, b8⟩
  have B8 := Lib.hid (B7.out.below b8)
  go_wp2_with fail
  go_ret
  exact ⟨rfl, (below_trans (below_trans (below_trans (below_trans (below_trans (below_trans (below_trans b1 b2) b3) b4) b5) b6) b7) b8)⟩

set_option maxHeartbeats 4000000 in
set_option maxRecDepth 100000 in
theorem seen_ff_true_short (S : Nat → Addr) (s t : ByteArray) (w : World) (hs : s.size ≤ 140737488351232) (ht : t.size ≤ 140737488351232) (hB : Base S w) (hx : nameOf s.data.toList = false) (hy : nameOf t.data.toList = true) (hl : s.size ≤ 4096) :
    Calls Tryd.prog 6 #[.string s, .string t] w fun e w' => e = .returned (.bool true) ∧ Below w.heap.size w w' := by
  have NX := name_at S s false hx (by omega)
  have NY := name_at S t true hy (by omega)
  have C1 := name_at S (s ++ ⟨#[32]⟩ ++ t) false (by rw [data_mid]; exact name_mid (by decide) (by decide) _ _) (size_mid s t 32 hs ht)
  have C2 := name_at S (s ++ ⟨#[43]⟩ ++ t) false (by rw [data_mid]; exact name_mid (by decide) (by decide) _ _) (size_mid s t 43 hs ht)
  have C3 := plain_at S (s ++ ⟨#[10]⟩ ++ t) false (by rw [data_mid]; exact plain_mid (by decide) (by decide) _ _) (size_mid s t 10 hs ht)
  have C4 := plain_at S (s ++ ⟨#[255]⟩ ++ t) false (by rw [data_mid]; exact plain_ff _ _) (size_mid s t 255 hs ht)
  have HNX := Lib.hid NX
  clear NX
  have HNY := Lib.hid NY
  clear NY
  have HC1 := Lib.hid C1
  clear C1
  have HC2 := Lib.hid C2
  clear C2
  have HC3 := Lib.hid C3
  clear C3
  have HC4 := Lib.hid C4
  clear C4
  clear hx hy
  have HB := Lib.hid hB
  clear hB
  go_enter Tryd.func6, Tryd.ntmps6
  go_wp2_with fail
  refine (HNX.out _ HB.out).mono ?_
  rintro e w1 ⟨rfl, b1⟩
  have B1 := Lib.hid (HB.out.below b1)
  go_wp2_with fail
  refine (HNY.out _ B1.out).mono ?_
  rintro e w2 ⟨rfl, b2⟩
  have B2 := Lib.hid (B1.out.below b2)
  go_wp2_with fail
  refine (HC1.out _ B2.out).mono ?_
  rintro e w3 ⟨rfl, b3⟩
  have B3 := Lib.hid (B2.out.below b3)
  go_wp2_with fail
  refine (HC2.out _ B3.out).mono ?_
  rintro e w4 ⟨rfl, b4⟩
  have B4 := Lib.hid (B3.out.below b4)
  go_wp2_with fail
  refine (HC3.out _ B4.out).mono ?_
  rintro e w5 ⟨rfl, b5⟩
  have B5 := Lib.hid (B4.out.below b5)
  go_wp2_with fail
  refine (HC4.out _ B5.out).mono ?_
  rintro e w6 ⟨rfl, b6⟩
  have B6 := Lib.hid (B5.out.below b6)
  go_wp2_with fail
  refine ((fun W h => alive_any S W h) _ B6.out).mono ?_
  rintro e w7 ⟨rfl, b7⟩
  have B7 := Lib.hid (B6.out.below b7)
  go_wp2_with fail
  go_ret
  exact ⟨rfl, (below_trans (below_trans (below_trans (below_trans (below_trans (below_trans b1 b2) b3) b4) b5) b6) b7)⟩

set_option maxHeartbeats 4000000 in
set_option maxRecDepth 100000 in
theorem seen_ff_false_long (S : Nat → Addr) (s t : ByteArray) (w : World) (hs : s.size ≤ 140737488351232) (ht : t.size ≤ 140737488351232) (hB : Base S w) (hx : nameOf s.data.toList = false) (hy : nameOf t.data.toList = false) (hl : 4096 < s.size) :
    Calls Tryd.prog 6 #[.string s, .string t] w fun e w' => e = .returned (.bool true) ∧ Below w.heap.size w w' := by
  have NX := name_at S s false hx (by omega)
  have NY := name_at S t false hy (by omega)
  have C1 := name_at S (s ++ ⟨#[32]⟩ ++ t) false (by rw [data_mid]; exact name_mid (by decide) (by decide) _ _) (size_mid s t 32 hs ht)
  have C2 := name_at S (s ++ ⟨#[43]⟩ ++ t) false (by rw [data_mid]; exact name_mid (by decide) (by decide) _ _) (size_mid s t 43 hs ht)
  have C3 := plain_at S (s ++ ⟨#[10]⟩ ++ t) false (by rw [data_mid]; exact plain_mid (by decide) (by decide) _ _) (size_mid s t 10 hs ht)
  have C4 := plain_at S (s ++ ⟨#[255]⟩ ++ t) false (by rw [data_mid]; exact plain_ff _ _) (size_mid s t 255 hs ht)
  have PL := plain_at S s false (plain_long (by rw [size_list]; exact hl)) (by omega)
  have HNX := Lib.hid NX
  clear NX
  have HNY := Lib.hid NY
  clear NY
  have HC1 := Lib.hid C1
  clear C1
  have HC2 := Lib.hid C2
  clear C2
  have HC3 := Lib.hid C3
  clear C3
  have HC4 := Lib.hid C4
  clear C4
  have HPL := Lib.hid PL
  clear PL
  clear hx hy
  have HB := Lib.hid hB
  clear hB
  go_enter Tryd.func6, Tryd.ntmps6
  go_wp2_with fail
  refine (HNX.out _ HB.out).mono ?_
  rintro e w1 ⟨rfl, b1⟩
  have B1 := Lib.hid (HB.out.below b1)
  go_wp2_with fail
  refine (HNY.out _ B1.out).mono ?_
  rintro e w2 ⟨rfl, b2⟩
  have B2 := Lib.hid (B1.out.below b2)
  go_wp2_with fail
  refine (HPL.out _ B2.out).mono ?_
  rintro e w3 ⟨rfl, b3⟩
  have B3 := Lib.hid (B2.out.below b3)
  go_wp2_with fail
  refine (HC1.out _ B3.out).mono ?_
  rintro e w4 ⟨rfl, b4⟩
  have B4 := Lib.hid (B3.out.below b4)
  go_wp2_with fail
  refine (HC2.out _ B4.out).mono ?_
  rintro e w5 ⟨rfl, b5⟩
  have B5 := Lib.hid (B4.out.below b5)
  go_wp2_with fail
  refine (HC3.out _ B5.out).mono ?_
  rintro e w6 ⟨rfl, b6⟩
  have B6 := Lib.hid (B5.out.below b6)
  go_wp2_with fail
  refine (HC4.out _ B6.out).mono ?_
  rintro e w7 ⟨rfl, b7⟩
  have B7 := Lib.hid (B6.out.below b7)
  go_wp2_with fail
  refine ((fun W h => alive_any S W h) _ B7.out).mono ?_
  rintro e w8 ⟨rfl, b8⟩
  have B8 := Lib.hid (B7.out.below b8)
  go_wp2_with fail
  go_ret
  exact ⟨rfl, (below_trans (below_trans (below_trans (below_trans (below_trans (below_trans (below_trans b1 b2) b3) b4) b5) b6) b7) b8)⟩

set_option maxHeartbeats 4000000 in
set_option maxRecDepth 100000 in
theorem seen_ff_false_short (S : Nat → Addr) (s t : ByteArray) (w : World) (hs : s.size ≤ 140737488351232) (ht : t.size ≤ 140737488351232) (hB : Base S w) (hx : nameOf s.data.toList = false) (hy : nameOf t.data.toList = false) (hl : s.size ≤ 4096) :
    Calls Tryd.prog 6 #[.string s, .string t] w fun e w' => e = .returned (.bool true) ∧ Below w.heap.size w w' := by
  have NX := name_at S s false hx (by omega)
  have NY := name_at S t false hy (by omega)
  have C1 := name_at S (s ++ ⟨#[32]⟩ ++ t) false (by rw [data_mid]; exact name_mid (by decide) (by decide) _ _) (size_mid s t 32 hs ht)
  have C2 := name_at S (s ++ ⟨#[43]⟩ ++ t) false (by rw [data_mid]; exact name_mid (by decide) (by decide) _ _) (size_mid s t 43 hs ht)
  have C3 := plain_at S (s ++ ⟨#[10]⟩ ++ t) false (by rw [data_mid]; exact plain_mid (by decide) (by decide) _ _) (size_mid s t 10 hs ht)
  have C4 := plain_at S (s ++ ⟨#[255]⟩ ++ t) false (by rw [data_mid]; exact plain_ff _ _) (size_mid s t 255 hs ht)
  have HNX := Lib.hid NX
  clear NX
  have HNY := Lib.hid NY
  clear NY
  have HC1 := Lib.hid C1
  clear C1
  have HC2 := Lib.hid C2
  clear C2
  have HC3 := Lib.hid C3
  clear C3
  have HC4 := Lib.hid C4
  clear C4
  clear hx hy
  have HB := Lib.hid hB
  clear hB
  go_enter Tryd.func6, Tryd.ntmps6
  go_wp2_with fail
  refine (HNX.out _ HB.out).mono ?_
  rintro e w1 ⟨rfl, b1⟩
  have B1 := Lib.hid (HB.out.below b1)
  go_wp2_with fail
  refine (HNY.out _ B1.out).mono ?_
  rintro e w2 ⟨rfl, b2⟩
  have B2 := Lib.hid (B1.out.below b2)
  go_wp2_with fail
  refine (HC1.out _ B2.out).mono ?_
  rintro e w3 ⟨rfl, b3⟩
  have B3 := Lib.hid (B2.out.below b3)
  go_wp2_with fail
  refine (HC2.out _ B3.out).mono ?_
  rintro e w4 ⟨rfl, b4⟩
  have B4 := Lib.hid (B3.out.below b4)
  go_wp2_with fail
  refine (HC3.out _ B4.out).mono ?_
  rintro e w5 ⟨rfl, b5⟩
  have B5 := Lib.hid (B4.out.below b5)
  go_wp2_with fail
  refine (HC4.out _ B5.out).mono ?_
  rintro e w6 ⟨rfl, b6⟩
  have B6 := Lib.hid (B5.out.below b6)
  go_wp2_with fail
  refine ((fun W h => alive_any S W h) _ B6.out).mono ?_
  rintro e w7 ⟨rfl, b7⟩
  have B7 := Lib.hid (B6.out.below b7)
  go_wp2_with fail
  go_ret
  exact ⟨rfl, (below_trans (below_trans (below_trans (below_trans (below_trans (below_trans b1 b2) b3) b4) b5) b6) b7)⟩

set_option maxHeartbeats 4000000 in
set_option maxRecDepth 100000 in
theorem seen_tt_near (S : Nat → Addr) (s t : ByteArray) (w : World) (hs : s.size ≤ 140737488351232) (ht : t.size ≤ 140737488351232) (hB : Base S w) (hx : nameOf s.data.toList = true) (hy : nameOf t.data.toList = true) (hl : s.size + t.size ≤ 64) :
    Calls Tryd.prog 6 #[.string s, .string t] w fun e w' => e = .returned (.bool true) ∧ Below w.heap.size w w' := by
  have hl64 := (name_len hx).1
  rw [size_list] at hl64
  have NX := name_at S s true hx (by omega)
  have NY := name_at S t true hy (by omega)
  have C1 := name_at S (s ++ ⟨#[32]⟩ ++ t) false (by rw [data_mid]; exact name_mid (by decide) (by decide) _ _) (size_mid s t 32 hs ht)
  have C2 := name_at S (s ++ ⟨#[43]⟩ ++ t) false (by rw [data_mid]; exact name_mid (by decide) (by decide) _ _) (size_mid s t 43 hs ht)
  have C3 := plain_at S (s ++ ⟨#[10]⟩ ++ t) false (by rw [data_mid]; exact plain_mid (by decide) (by decide) _ _) (size_mid s t 10 hs ht)
  have C4 := plain_at S (s ++ ⟨#[255]⟩ ++ t) false (by rw [data_mid]; exact plain_ff _ _) (size_mid s t 255 hs ht)
  have PL := plain_at S s true (name_plain hx) (by omega)
  have D1 := name_at S (s ++ t) true (by rw [data_app2]; exact name_both hx hy (by rw [size_list, size_list]; exact hl)) (by rw [size_app2]; omega)
  have D2 := name_at S (t ++ s) true (by rw [data_app2]; exact name_both hy hx (by rw [size_list, size_list]; omega)) (by rw [size_app2]; omega)
  have HNX := Lib.hid NX
  clear NX
  have HNY := Lib.hid NY
  clear NY
  have HC1 := Lib.hid C1
  clear C1
  have HC2 := Lib.hid C2
  clear C2
  have HC3 := Lib.hid C3
  clear C3
  have HC4 := Lib.hid C4
  clear C4
  have HPL := Lib.hid PL
  clear PL
  have HD1 := Lib.hid D1
  clear D1
  have HD2 := Lib.hid D2
  clear D2
  clear hx hy
  have HB := Lib.hid hB
  clear hB
  go_enter Tryd.func6, Tryd.ntmps6
  go_wp2_with fail
  refine (HNX.out _ HB.out).mono ?_
  rintro e w1 ⟨rfl, b1⟩
  have B1 := Lib.hid (HB.out.below b1)
  go_wp2_with fail
  refine (HNY.out _ B1.out).mono ?_
  rintro e w2 ⟨rfl, b2⟩
  have B2 := Lib.hid (B1.out.below b2)
  go_wp2_with fail
  refine (HPL.out _ B2.out).mono ?_
  rintro e w3 ⟨rfl, b3⟩
  have B3 := Lib.hid (B2.out.below b3)
  go_wp2_with fail
  refine (HC1.out _ B3.out).mono ?_
  rintro e w4 ⟨rfl, b4⟩
  have B4 := Lib.hid (B3.out.below b4)
  go_wp2_with fail
  refine (HC2.out _ B4.out).mono ?_
  rintro e w5 ⟨rfl, b5⟩
  have B5 := Lib.hid (B4.out.below b5)
  go_wp2_with fail
  refine (HC3.out _ B5.out).mono ?_
  rintro e w6 ⟨rfl, b6⟩
  have B6 := Lib.hid (B5.out.below b6)
  go_wp2_with fail
  refine (HC4.out _ B6.out).mono ?_
  rintro e w7 ⟨rfl, b7⟩
  have B7 := Lib.hid (B6.out.below b7)
  go_wp2_with fail
  refine (HD1.out _ B7.out).mono ?_
  rintro e w8 ⟨rfl, b8⟩
  have B8 := Lib.hid (B7.out.below b8)
  go_wp2_with fail
  refine (HD2.out _ B8.out).mono ?_
  rintro e w9 ⟨rfl, b9⟩
  have B9 := Lib.hid (B8.out.below b9)
  go_wp2_with fail
  refine ((fun W h => alive_any S W h) _ B9.out).mono ?_
  rintro e w10 ⟨rfl, b10⟩
  have B10 := Lib.hid (B9.out.below b10)
  go_wp2_with fail
  go_ret
  exact ⟨rfl, (below_trans (below_trans (below_trans (below_trans (below_trans (below_trans (below_trans (below_trans (below_trans b1 b2) b3) b4) b5) b6) b7) b8) b9) b10)⟩

set_option maxHeartbeats 4000000 in
set_option maxRecDepth 100000 in
theorem seen_tt_far (S : Nat → Addr) (s t : ByteArray) (w : World) (hs : s.size ≤ 140737488351232) (ht : t.size ≤ 140737488351232) (hB : Base S w) (hx : nameOf s.data.toList = true) (hy : nameOf t.data.toList = true) (hl : 64 < s.size + t.size) :
    Calls Tryd.prog 6 #[.string s, .string t] w fun e w' => e = .returned (.bool true) ∧ Below w.heap.size w w' := by
  have hl64 := (name_len hx).1
  rw [size_list] at hl64
  have NX := name_at S s true hx (by omega)
  have NY := name_at S t true hy (by omega)
  have C1 := name_at S (s ++ ⟨#[32]⟩ ++ t) false (by rw [data_mid]; exact name_mid (by decide) (by decide) _ _) (size_mid s t 32 hs ht)
  have C2 := name_at S (s ++ ⟨#[43]⟩ ++ t) false (by rw [data_mid]; exact name_mid (by decide) (by decide) _ _) (size_mid s t 43 hs ht)
  have C3 := plain_at S (s ++ ⟨#[10]⟩ ++ t) false (by rw [data_mid]; exact plain_mid (by decide) (by decide) _ _) (size_mid s t 10 hs ht)
  have C4 := plain_at S (s ++ ⟨#[255]⟩ ++ t) false (by rw [data_mid]; exact plain_ff _ _) (size_mid s t 255 hs ht)
  have PL := plain_at S s true (name_plain hx) (by omega)
  have HNX := Lib.hid NX
  clear NX
  have HNY := Lib.hid NY
  clear NY
  have HC1 := Lib.hid C1
  clear C1
  have HC2 := Lib.hid C2
  clear C2
  have HC3 := Lib.hid C3
  clear C3
  have HC4 := Lib.hid C4
  clear C4
  have HPL := Lib.hid PL
  clear PL
  clear hx hy
  have HB := Lib.hid hB
  clear hB
  go_enter Tryd.func6, Tryd.ntmps6
  go_wp2_with fail
  refine (HNX.out _ HB.out).mono ?_
  rintro e w1 ⟨rfl, b1⟩
  have B1 := Lib.hid (HB.out.below b1)
  go_wp2_with fail
  refine (HNY.out _ B1.out).mono ?_
  rintro e w2 ⟨rfl, b2⟩
  have B2 := Lib.hid (B1.out.below b2)
  go_wp2_with fail
  refine (HPL.out _ B2.out).mono ?_
  rintro e w3 ⟨rfl, b3⟩
  have B3 := Lib.hid (B2.out.below b3)
  go_wp2_with fail
  refine (HC1.out _ B3.out).mono ?_
  rintro e w4 ⟨rfl, b4⟩
  have B4 := Lib.hid (B3.out.below b4)
  go_wp2_with fail
  refine (HC2.out _ B4.out).mono ?_
  rintro e w5 ⟨rfl, b5⟩
  have B5 := Lib.hid (B4.out.below b5)
  go_wp2_with fail
  refine (HC3.out _ B5.out).mono ?_
  rintro e w6 ⟨rfl, b6⟩
  have B6 := Lib.hid (B5.out.below b6)
  go_wp2_with fail
  refine (HC4.out _ B6.out).mono ?_
  rintro e w7 ⟨rfl, b7⟩
  have B7 := Lib.hid (B6.out.below b7)
  go_wp2_with fail
  refine ((fun W h => alive_any S W h) _ B7.out).mono ?_
  rintro e w8 ⟨rfl, b8⟩
  have B8 := Lib.hid (B7.out.below b8)
  go_wp2_with fail
  go_ret
  exact ⟨rfl, (below_trans (below_trans (below_trans (below_trans (below_trans (below_trans (below_trans b1 b2) b3) b4) b5) b6) b7) b8)⟩

set_option maxHeartbeats 4000000 in
set_option maxRecDepth 100000 in
theorem seen_tt_empty (S : Nat → Addr) (s t : ByteArray) (w : World) (hs : s.size ≤ 140737488351232) (ht : t.size ≤ 140737488351232) (hB : Base S w) (hx : nameOf s.data.toList = true) (hy : nameOf t.data.toList = false) (hl : t.size = 0) :
    Calls Tryd.prog 6 #[.string s, .string t] w fun e w' => e = .returned (.bool true) ∧ Below w.heap.size w w' := by
  have hl64 := (name_len hx).1
  rw [size_list] at hl64
  have NX := name_at S s true hx (by omega)
  have NY := name_at S t false hy (by omega)
  have C1 := name_at S (s ++ ⟨#[32]⟩ ++ t) false (by rw [data_mid]; exact name_mid (by decide) (by decide) _ _) (size_mid s t 32 hs ht)
  have C2 := name_at S (s ++ ⟨#[43]⟩ ++ t) false (by rw [data_mid]; exact name_mid (by decide) (by decide) _ _) (size_mid s t 43 hs ht)
  have C3 := plain_at S (s ++ ⟨#[10]⟩ ++ t) false (by rw [data_mid]; exact plain_mid (by decide) (by decide) _ _) (size_mid s t 10 hs ht)
  have C4 := plain_at S (s ++ ⟨#[255]⟩ ++ t) false (by rw [data_mid]; exact plain_ff _ _) (size_mid s t 255 hs ht)
  have PL := plain_at S s true (name_plain hx) (by omega)
  have hemp2 : t.toList = [] := by rw [ByteArray.toList_eq]; exact List.eq_nil_of_length_eq_zero (by rw [size_list]; exact hl)
  have HNX := Lib.hid NX
  clear NX
  have HNY := Lib.hid NY
  clear NY
  have HC1 := Lib.hid C1
  clear C1
  have HC2 := Lib.hid C2
  clear C2
  have HC3 := Lib.hid C3
  clear C3
  have HC4 := Lib.hid C4
  clear C4
  have HPL := Lib.hid PL
  clear PL
  clear hx hy
  have HB := Lib.hid hB
  clear hB
  go_enter Tryd.func6, Tryd.ntmps6
  go_wp2_with fail
  refine (HNX.out _ HB.out).mono ?_
  rintro e w1 ⟨rfl, b1⟩
  have B1 := Lib.hid (HB.out.below b1)
  go_wp2_with fail
  refine (HNY.out _ B1.out).mono ?_
  rintro e w2 ⟨rfl, b2⟩
  have B2 := Lib.hid (B1.out.below b2)
  go_wp2_with fail
  refine (HPL.out _ B2.out).mono ?_
  rintro e w3 ⟨rfl, b3⟩
  have B3 := Lib.hid (B2.out.below b3)
  go_wp2_with fail
  refine (HC1.out _ B3.out).mono ?_
  rintro e w4 ⟨rfl, b4⟩
  have B4 := Lib.hid (B3.out.below b4)
  go_wp2_with fail
  refine (HC2.out _ B4.out).mono ?_
  rintro e w5 ⟨rfl, b5⟩
  have B5 := Lib.hid (B4.out.below b5)
  go_wp2_with fail
  refine (HC3.out _ B5.out).mono ?_
  rintro e w6 ⟨rfl, b6⟩
  have B6 := Lib.hid (B5.out.below b6)
  go_wp2_with fail
  refine (HC4.out _ B6.out).mono ?_
  rintro e w7 ⟨rfl, b7⟩
  have B7 := Lib.hid (B6.out.below b7)
  go_wp2_with fail
  refine ((fun W h => alive_any S W h) _ B7.out).mono ?_
  rintro e w8 ⟨rfl, b8⟩
  have B8 := Lib.hid (B7.out.below b8)
  go_wp2_with fail
  go_ret
  exact ⟨rfl, (below_trans (below_trans (below_trans (below_trans (below_trans (below_trans (below_trans b1 b2) b3) b4) b5) b6) b7) b8)⟩

set_option maxHeartbeats 4000000 in
set_option maxRecDepth 100000 in
theorem seen_tt_some (S : Nat → Addr) (s t : ByteArray) (w : World) (hs : s.size ≤ 140737488351232) (ht : t.size ≤ 140737488351232) (hB : Base S w) (hx : nameOf s.data.toList = true) (hy : nameOf t.data.toList = false) (hl : t.size ≠ 0) :
    Calls Tryd.prog 6 #[.string s, .string t] w fun e w' => e = .returned (.bool true) ∧ Below w.heap.size w w' := by
  have hl64 := (name_len hx).1
  rw [size_list] at hl64
  have NX := name_at S s true hx (by omega)
  have NY := name_at S t false hy (by omega)
  have C1 := name_at S (s ++ ⟨#[32]⟩ ++ t) false (by rw [data_mid]; exact name_mid (by decide) (by decide) _ _) (size_mid s t 32 hs ht)
  have C2 := name_at S (s ++ ⟨#[43]⟩ ++ t) false (by rw [data_mid]; exact name_mid (by decide) (by decide) _ _) (size_mid s t 43 hs ht)
  have C3 := plain_at S (s ++ ⟨#[10]⟩ ++ t) false (by rw [data_mid]; exact plain_mid (by decide) (by decide) _ _) (size_mid s t 10 hs ht)
  have C4 := plain_at S (s ++ ⟨#[255]⟩ ++ t) false (by rw [data_mid]; exact plain_ff _ _) (size_mid s t 255 hs ht)
  have PL := plain_at S s true (name_plain hx) (by omega)
  have hne : t.data.toList ≠ [] := fun e => hl (by rw [← size_list, e]; rfl)
  have hemp : t.toList.isEmpty = false := by rw [ByteArray.toList_eq]; cases hq : t.data.toList with | nil => exact absurd hq hne | cons _ _ => rfl
  have hemp2 : ¬ t.toList = [] := fun e => by rw [e] at hemp; cases hemp
  have D1 := name_at S (s ++ t) false (by rw [data_app2]; exact name_not hx hy hne) (by rw [size_app2]; omega)
  have HNX := Lib.hid NX
  clear NX
  have HNY := Lib.hid NY
  clear NY
  have HC1 := Lib.hid C1
  clear C1
  have HC2 := Lib.hid C2
  clear C2
  have HC3 := Lib.hid C3
  clear C3
  have HC4 := Lib.hid C4
  clear C4
  have HPL := Lib.hid PL
  clear PL
  have HD1 := Lib.hid D1
  clear D1
  clear hx hy hne
  have HB := Lib.hid hB
  clear hB
  go_enter Tryd.func6, Tryd.ntmps6
  go_wp2_with fail
  refine (HNX.out _ HB.out).mono ?_
  rintro e w1 ⟨rfl, b1⟩
  have B1 := Lib.hid (HB.out.below b1)
  go_wp2_with fail
  refine (HNY.out _ B1.out).mono ?_
  rintro e w2 ⟨rfl, b2⟩
  have B2 := Lib.hid (B1.out.below b2)
  go_wp2_with fail
  refine (HPL.out _ B2.out).mono ?_
  rintro e w3 ⟨rfl, b3⟩
  have B3 := Lib.hid (B2.out.below b3)
  go_wp2_with fail
  refine (HC1.out _ B3.out).mono ?_
  rintro e w4 ⟨rfl, b4⟩
  have B4 := Lib.hid (B3.out.below b4)
  go_wp2_with fail
  refine (HC2.out _ B4.out).mono ?_
  rintro e w5 ⟨rfl, b5⟩
  have B5 := Lib.hid (B4.out.below b5)
  go_wp2_with fail
  refine (HC3.out _ B5.out).mono ?_
  rintro e w6 ⟨rfl, b6⟩
  have B6 := Lib.hid (B5.out.below b6)
  go_wp2_with fail
  refine (HC4.out _ B6.out).mono ?_
  rintro e w7 ⟨rfl, b7⟩
  have B7 := Lib.hid (B6.out.below b7)
  go_wp2_with fail
  refine (HD1.out _ B7.out).mono ?_
  rintro e w8 ⟨rfl, b8⟩
  have B8 := Lib.hid (B7.out.below b8)
  go_wp2_with fail
  refine ((fun W h => alive_any S W h) _ B8.out).mono ?_
  rintro e w9 ⟨rfl, b9⟩
  have B9 := Lib.hid (B8.out.below b9)
  go_wp2_with fail
  go_ret
  exact ⟨rfl, (below_trans (below_trans (below_trans (below_trans (below_trans (below_trans (below_trans (below_trans b1 b2) b3) b4) b5) b6) b7) b8) b9)⟩
end Go.Proofs.YtobnlnkmonaohaaDoor
