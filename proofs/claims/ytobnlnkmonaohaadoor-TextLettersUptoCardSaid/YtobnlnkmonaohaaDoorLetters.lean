/-
  PROVED: cartularylaw03.TextLetters returns true, whatever the two texts (the tied card of its row, in its second form). Conditions: those of the row: the two texts are together of bulk at most 1048576; the listed package-level variables hold what the program lays.
-/
import Derived.Test.YtobnlnkmonaohaaDoorRefB64
import Derived.Test.YtobnlnkmonaohaaDoorAlive
import Derived.Test.YtobnlnkmonaohaaDoorTold
import Derived.Test.YtobnlnkmonaohaaDoorLettersFrame
namespace Go.Proofs.YtobnlnkmonaohaaDoor
open Go.RowKit

theorem ok_letters (l : List UInt8) : okAns (fromB64 l).2.1 (fromB64 l).2.2 := by
  rw [fromB64_ref]
  split
  · exact .inr (.inl ⟨by simp, rfl⟩)
  · split
    · exact .inl ⟨rfl, rfl⟩
    · rename_i h
      exact .inr (.inr ⟨by simp, _, rfl, h⟩)
set_option maxHeartbeats 2000000 in
set_option maxRecDepth 100000 in
theorem letters_walk (S : Nat → Addr) (s t : ByteArray) (w : World) (ht : t.size ≤ 140737488351232) (hB : Base S w) (hs : s.size + t.size ≤ 1048576) :
    Calls Tryd.prog 3 #[.string s, .string t] w fun e w' => e = .returned (.bool true) ∧ Below w.heap.size w w' := by
  have hok := sameB_fz (ok_letters t.data.toList)
  have C1 : ∀ W, Base S W → Calls Tryd.prog 13 #[.string t] W (Told S W (.string ⟨(fromB64 t.data.toList).1.toArray⟩) (fromB64 t.data.toList).2.1 (fromB64 t.data.toList).2.2) := fun W h => fromBase64_any S t W (by omega) h
  have C2 : ∀ W, Calls Tryd.prog 14 #[.string t] W fun e w' => e = .returned (told2 (fromB64 t.data.toList)) ∧ Below W.heap.size W w' := fun W => refFromB64_any t W (by omega)
  have C3 : ∀ W, Calls Tryd.prog 15 #[.string s] W fun e w' => e = .returned (.string ⟨(b64 s.data.toList).toArray⟩) ∧ Below W.heap.size W w' := fun W => base64_any s W (by omega)
  have C4 : ∀ W, Calls Tryd.prog 16 #[.string s] W fun e w' => e = .returned (.string ⟨(b64 s.data.toList).toArray⟩) ∧ Below W.heap.size W w' := fun W => refBase64_any s W (by omega)
  unfold told2 at C2
  have HOK := Lib.hid hok
  have HC1 := Lib.hid C1
  have HC2 := Lib.hid C2
  have HC3 := Lib.hid C3
  have HC4 := Lib.hid C4
  clear hok C1 C2 C3 C4
  generalize fromB64 t.data.toList = A at *
  obtain ⟨x, c, p⟩ := A
  simp only [] at HOK HC1 HC2
  generalize (⟨x.toArray⟩ : ByteArray) = xs at *
  generalize (⟨(b64 s.data.toList).toArray⟩ : ByteArray) = ys at *
  generalize hz : fz c p = z at *
  have HB := Lib.hid hB
  clear hB hz
  go_enter Tryd.func3, Tryd.ntmps3
  go_wp2_with fail
  refine (HC1.out _ HB.out).mono ?_
  rintro e w1 ⟨ev, rfl, he, b1⟩
  have B1 := Lib.hid (HB.out.below b1)
  have E1 := Lib.hid he
  clear he
  go_wp2_with fail
  refine (HC2.out _).mono ?_
  rintro e w2 ⟨rfl, b2⟩
  have B2 := Lib.hid (B1.out.below b2)
  have E2 := Lib.hid (E1.out.below b2)
  go_wp2_with fail
  have b3 : Below w2.heap.size w2 (w2.alloc (.cells #[.int .i64 (c : Int), .int .i64 z] 27)) := (Below.refl _ _).alloc (Nat.le_refl _) _
  have B3 := Lib.hid (B2.out.below b3)
  have E3 := Lib.hid (E2.out.below b3)
  have r3 : faultRow (w2.alloc (.cells #[.int .i64 (c : Int), .int .i64 z] 27)) w2.heap.size c z := heap_alloc_new w2 _
  have R3 := Lib.hid r3
  clear r3
  refine (HC3.out _).mono ?_
  rintro e w4 ⟨rfl, b4⟩
  have B4 := Lib.hid (B3.out.below b4)
  have E4 := Lib.hid (E3.out.below b4)
  have R4 := Lib.hid (R3.out.below b4)
  go_wp2_with fail
  refine (HC4.out _).mono ?_
  rintro e w5 ⟨rfl, b5⟩
  have B5 := Lib.hid (B4.out.below b5)
  have E5 := Lib.hid (E4.out.below b5)
  have R5 := R4.out.below b5
  obtain ⟨c0, c1, f0, f1⟩ := R5.cells
  clear R5
  go_wp2_with fail
  refine (same_any S _ ev c p (c : Int) z B5.out E5.out).mono ?_
  rw [HOK.out]
  rintro e w6 ⟨rfl, b6⟩
  have B6 := Lib.hid (B5.out.below b6)
  clear c0 c1 f0 f1
  go_wp2_with fail
  refine (alive_any S _ B6.out).mono ?_
  rintro e w7 ⟨rfl, b7⟩
  go_wp2_with fail
  go_ret
  exact ⟨rfl, below_trans (below_trans (below_trans (below_trans (below_trans (below_trans b1 b2) b3) b4) b5) b6) b7⟩
theorem textLetters_walk : TextLettersFrame.Walk := fun S s t w _ ht hB hs => letters_walk S s t w ht hB hs
theorem textLetters_card : Rows.TextLettersUptoCardSaid := TextLettersFrame.card textLetters_walk
end Go.Proofs.YtobnlnkmonaohaaDoor
