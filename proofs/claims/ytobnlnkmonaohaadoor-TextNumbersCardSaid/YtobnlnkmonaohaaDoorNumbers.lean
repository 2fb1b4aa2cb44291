/-
  PROVED: cartularylaw03.TextNumbers returns true, whatever the number and the text (the tied card of its row). Conditions: those of the row: the text takes at most the bytes that the form allows; the listed package-level variables hold what the program lays.
-/
import Derived.Test.YtobnlnkmonaohaaDoorRefDcm
import Derived.Test.YtobnlnkmonaohaaDoorAlive
import Derived.Test.YtobnlnkmonaohaaDoorTold
import Derived.Test.YtobnlnkmonaohaaDoorNumbersFrame
namespace Go.Proofs.YtobnlnkmonaohaaDoor
open Go.RowKit

theorem ok_numbers (l : List UInt8) : okAns (fromDec l).2.1 (fromDec l).2.2 := by
  unfold fromDec
  split
  · exact .inr (.inl ⟨by simp, rfl⟩)
  · cases l with
    | nil => exact .inr (.inr ⟨by simp, _, rfl, by omega⟩)
    | cons f r =>
      simp only []
      cases decRun f 0 0 (f :: r) with
      | ok x => exact .inl ⟨rfl, rfl⟩
      | error e => exact .inr (.inr ⟨by simp [toldAt], _, rfl, by omega⟩)
set_option maxHeartbeats 2000000 in
set_option maxRecDepth 100000 in
theorem numbers_walk (S : Nat → Addr) (N : Nat) (t : ByteArray) (w : World) (hN : N ≤ 18446744073709551615) (ht : t.size ≤ 140737488351232) (hB : Base S w) (hT : Tab w) :
    Calls Tryd.prog 11 #[.int .u64 N, .string t] w fun e w' => e = .returned (.bool true) ∧ Below w.heap.size w w' := by
  have hok := sameB_fz (ok_numbers t.data.toList)
  have C1 : ∀ W, Base S W → Calls Tryd.prog 29 #[.string t] W (Told S W (.int .u64 ((fromDec t.data.toList).1 : Int)) (fromDec t.data.toList).2.1 (fromDec t.data.toList).2.2) := fun W h => fromDecimal_any S t W (by omega) h
  have C2 : ∀ W, Calls Tryd.prog 42 #[.string t] W fun e w' => e = .returned (toldN (fromDec t.data.toList)) ∧ Below W.heap.size W w' := fun W => refFromDec_any t W (by omega)
  have C3 : ∀ W, Tab W → Calls Tryd.prog 43 #[.int .u64 N] W fun e w' => e = .returned (.string ⟨(Lib.decDigits N).toArray⟩) ∧ Below W.heap.size W w' := fun W h => decimal_any N hN W h
  have C4 : ∀ W, Calls Tryd.prog 44 #[.int .u64 N] W fun e w' => e = .returned (.string ⟨(Lib.decDigits N).toArray⟩) ∧ Below W.heap.size W w' := fun W => refDecimal_any N hN W
  unfold toldN at C2
  have HOK := Lib.hid hok
  have HC1 := Lib.hid C1
  have HC2 := Lib.hid C2
  have HC3 := Lib.hid C3
  have HC4 := Lib.hid C4
  clear hok C1 C2 C3 C4
  generalize fromDec t.data.toList = A at *
  obtain ⟨x, c, p⟩ := A
  simp only [] at HOK HC1 HC2
  generalize (⟨(Lib.decDigits N).toArray⟩ : ByteArray) = ys at *
  generalize hz : fz c p = z at *
  have HB := Lib.hid hB
  have HT := Lib.hid hT
  clear hB hz hT
  go_enter Tryd.func11, Tryd.ntmps11
  go_wp2_with fail
  refine (HC1.out _ HB.out).mono ?_
  rintro e w1 ⟨ev, rfl, he, b1⟩
  have B1 := Lib.hid (HB.out.below b1)
  have T1 := Lib.hid (tab_below HT.out b1)
  have E1 := Lib.hid he
  clear he
  go_wp2_with fail
  refine (HC2.out _).mono ?_
  rintro e w2 ⟨rfl, b2⟩
  have B2 := Lib.hid (B1.out.below b2)
  have T2 := Lib.hid (tab_below T1.out b2)
  have E2 := Lib.hid (E1.out.below b2)
  go_wp2_with fail
  have b3 : Below w2.heap.size w2 (w2.alloc (.cells #[.int .i64 (c : Int), .int .i64 z] 27)) := (Below.refl _ _).alloc (Nat.le_refl _) _
  have B3 := Lib.hid (B2.out.below b3)
  have T3 := Lib.hid (tab_below T2.out b3)
  have E3 := Lib.hid (E2.out.below b3)
  have r3 : faultRow (w2.alloc (.cells #[.int .i64 (c : Int), .int .i64 z] 27)) w2.heap.size c z := heap_alloc_new w2 _
  have R3 := Lib.hid r3
  clear r3
  refine (HC3.out _ T3.out).mono ?_
  rintro e w4 ⟨rfl, b4⟩
  have B4 := Lib.hid (B3.out.below b4)
  have E4 := Lib.hid (E3.out.below b4)
  have R4 := Lib.hid (R3.out.below b4)
  go_wp2_with fail
  refine (HC4.out _).mono ?_
  rintro e w5 ⟨rfl, b5⟩
  have B5 := Lib.hid (B4.out.below b5)
  have E5 := Lib.hid (E4.out.below b5)
  have R5 := R4.out.below b5
  obtain ⟨c0, c1, f0, f1⟩ := R5.cells
  clear R5
  go_wp2_with fail
  refine (same_any S _ ev c p (c : Int) z B5.out E5.out).mono ?_
  rw [HOK.out]
  rintro e w6 ⟨rfl, b6⟩
  have B6 := Lib.hid (B5.out.below b6)
  clear c0 c1 f0 f1
  go_wp2_with fail
  refine (alive_any S _ B6.out).mono ?_
  rintro e w7 ⟨rfl, b7⟩
  go_wp2_with fail
  go_ret
  exact ⟨rfl, below_trans (below_trans (below_trans (below_trans (below_trans (below_trans b1 b2) b3) b4) b5) b6) b7⟩
theorem textNumbers_walk : TextNumbersFrame.Walk := fun S n t w hn ht hB hT => by
  obtain ⟨N, rfl⟩ : ∃ N : Nat, n = N := ⟨n.toNat, by omega⟩
  exact numbers_walk S N t w (by omega) ht hB hT
theorem textNumbers_card : Rows.TextNumbersCardSaid := TextNumbersFrame.card textNumbers_walk
end Go.Proofs.YtobnlnkmonaohaaDoor
