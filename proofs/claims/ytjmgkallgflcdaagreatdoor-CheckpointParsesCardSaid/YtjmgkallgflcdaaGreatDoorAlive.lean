/-
  cartularylaw03.alive: what the document says of some short texts.
-/
import Derived.Test.YtjmgkallgflcdaaGreatDoorF64
import Derived.Test.YtjmgkallgflcdaaGreatDoorName2
import Derived.Test.YtjmgkallgflcdaaGreatDoorSameT
namespace Go.Proofs.YtjmgkallgflcdaaGreatDoor
open Go.RowKit

theorem ErrAt.zero {S : Nat → Addr} {w : World} {v : Value} (h : ErrAt S w v 0 none) : v = .nilIface := by
  rcases h with ⟨h, _⟩ | ⟨h, _⟩ | ⟨h, _⟩
  · exact h
  · omega
  · omega
theorem below_drewN' (w : World) (n : Nat) : Below w.heap.size w (w.drewN n) := below_drewN (Below.refl _ _) n

theorem fromBase64_at (S : Nat → Addr) (s : ByteArray) (l : List UInt8) (x : List UInt8) (c : Nat) (p : Option Int) (hl : s.data.toList = l) (hr : fromB64 l = (x, c, p)) (w : World) (hs : s.size ≤ 9223372036854775807) (hB : Base S w) :
    Calls Tryz.prog 96 #[.string s] w (Told S w (.string ⟨x.toArray⟩) c p) := by
  have := fromBase64_any S s w hs hB
  rw [hl, hr] at this
  exact this
theorem fromDecimal_at (S : Nat → Addr) (s : ByteArray) (l : List UInt8) (x : Nat) (c : Nat) (p : Option Int) (hl : s.data.toList = l) (hr : fromDec l = (x, c, p)) (w : World) (hs : s.size ≤ 9223372036854775807) (hB : Base S w) :
    Calls Tryz.prog 97 #[.string s] w (Told S w (.int .u64 (x : Int)) c p) := by
  have := fromDecimal_any S s w hs hB
  rw [hl, hr] at this
  exact this
theorem lines_at (S : Nat → Addr) (s : ByteArray) (l : List UInt8) (x : List (List UInt8)) (c : Nat) (p : Option Int) (hl : s.data.toList = l) (hr : linesOf l = (x, c, p)) (w : World) (hs : s.size ≤ 9223372036854775807) (hB : Base S w) :
    Calls Tryz.prog 20 #[.string s] w fun e w' => ∃ v, Told S w v c p e w' ∧ TextsAt w.heap.size w' v x := by
  have := lines_any S s w hs hB
  rw [hl, hr] at this
  exact this
theorem big20 : fromDec [49, 56, 52, 52, 54, 55, 52, 52, 48, 55, 51, 55, 48, 57, 53, 53, 49, 54, 49, 53] = (18446744073709551615, 0, none) := by kernel_rfl

section
variable (S : Nat → Addr)
theorem al1 (W : World) (h : Base S W) : Calls Tryz.prog 96 #[.string ⟨#[81, 85, 73, 61]⟩] W fun e w' => e = .returned (.tuple #[.string ⟨#[65, 66]⟩, .nilIface]) ∧ Below W.heap.size W w' := by
  refine (fromBase64_at S ⟨#[81, 85, 73, 61]⟩ [81, 85, 73, 61] [65, 66] 0 none rfl (by kernel_rfl) W (by decide) h).mono ?_
  rintro _ w' ⟨ev, rfl, he, hb⟩
  rw [he.zero]
  exact ⟨rfl, hb⟩
theorem al2 (W : World) (h : Base S W) : Calls Tryz.prog 96 #[.string ⟨#[81, 82, 61, 61]⟩] W fun e w' => ∃ ev, e = .returned (.tuple #[.string ⟨#[]⟩, ev]) ∧ ErrAt S w' ev 3 (some 2) ∧ Below W.heap.size W w' := by
  refine (fromBase64_at S ⟨#[81, 82, 61, 61]⟩ [81, 82, 61, 61] [] 3 (some 2) rfl (by kernel_rfl) W (by decide) h).mono ?_
  rintro _ w' ⟨ev, rfl, he, hb⟩
  exact ⟨ev, rfl, he, hb⟩
theorem al3 (W : World) (h : Base S W) : Calls Tryz.prog 97 #[.string ⟨#[49, 56, 52, 52, 54, 55, 52, 52, 48, 55, 51, 55, 48, 57, 53, 53, 49, 54, 49, 53]⟩] W fun e w' => e = .returned (.tuple #[.int .u64 18446744073709551615, .nilIface]) ∧ Below W.heap.size W w' := by
  refine (fromDecimal_at S ⟨#[49, 56, 52, 52, 54, 55, 52, 52, 48, 55, 51, 55, 48, 57, 53, 53, 49, 54, 49, 53]⟩ _ _ 0 none rfl big20 W (by decide) h).mono ?_
  rintro _ w' ⟨ev, rfl, he, hb⟩
  rw [he.zero]
  exact ⟨rfl, hb⟩
theorem al4 (W : World) (h : Base S W) : Calls Tryz.prog 20 #[.string ⟨#[97, 10, 10, 98, 10]⟩] W fun e w' => ∃ v, e = .returned (.tuple #[v, .nilIface]) ∧ TextsIn w' v [[97], [], [98]] ∧ Below W.heap.size W w' := by
  refine (lines_at S ⟨#[97, 10, 10, 98, 10]⟩ [97, 10, 10, 98, 10] [[97], [], [98]] 0 none rfl (by kernel_rfl) W (by decide) h).mono ?_
  rintro _ w' ⟨v, ⟨ev, rfl, he, hb⟩, ht⟩
  rw [he.zero]
  exact ⟨v, rfl, ht.in_, hb⟩
theorem al5 (W : World) : Calls Tryz.prog 28 #[.string ⟨#[65]⟩] W fun e w' => e = .returned (.string ⟨#[81, 81, 61, 61]⟩) ∧ Below W.heap.size W w' := by
  refine (base64_any ⟨#[65]⟩ W (by decide)).mono ?_
  have e : b64 [65] = [81, 81, 61, 61] := by kernel_rfl
  rintro _ w' ⟨rfl, hb⟩
  refine ⟨?_, hb⟩
  show Ending.returned (.string ⟨(b64 [65]).toArray⟩) = _
  rw [e]
theorem al6 (W : World) (h : Base S W) : Calls Tryz.prog 25 #[.string ⟨#[97]⟩] W fun e w' => e = .returned (.bool true) ∧ Below W.heap.size W w' := by
  refine (name_any S ⟨#[97]⟩ W (by decide) h).mono ?_
  rintro _ w' ⟨rfl, hb⟩
  exact ⟨ret_bool (show nameOf [97] = true by kernel_rfl), hb⟩
theorem al7 (W : World) (h : Base S W) : Calls Tryz.prog 25 #[.string ⟨#[97, 32, 98]⟩] W fun e w' => e = .returned (.bool false) ∧ Below W.heap.size W w' := by
  refine (name_any S ⟨#[97, 32, 98]⟩ W (by decide) h).mono ?_
  rintro _ w' ⟨rfl, hb⟩
  exact ⟨ret_bool (show nameOf [97, 32, 98] = false by kernel_rfl), hb⟩
theorem al8 (W : World) (h : Base S W) : Calls Tryz.prog 26 #[.string ⟨#[97, 32, 98]⟩] W fun e w' => e = .returned (.bool true) ∧ Below W.heap.size W w' := by
  refine (plain_any S ⟨#[97, 32, 98]⟩ W (by decide) h).mono ?_
  rintro _ w' ⟨rfl, hb⟩
  exact ⟨ret_bool (show plainOf [97, 32, 98] = true by kernel_rfl), hb⟩
theorem al9 (W : World) (h : Base S W) : Calls Tryz.prog 26 #[.string ⟨#[97, 10]⟩] W fun e w' => e = .returned (.bool false) ∧ Below W.heap.size W w' := by
  refine (plain_any S ⟨#[97, 10]⟩ W (by decide) h).mono ?_
  rintro _ w' ⟨rfl, hb⟩
  exact ⟨ret_bool (show plainOf [97, 10] = false by kernel_rfl), hb⟩
theorem al10 (W : World) (v : Value) (h : TextsIn W v [[97], [], [98]]) :
    Calls Tryz.prog 21 #[v, .slice (some ⟨W.heap.size, 0, none⟩) 3 3] (W.alloc (.cells #[.string ⟨#[97]⟩, .string ⟨#[]⟩, .string ⟨#[98]⟩] 9)) fun e w' => e = .returned (.bool true) ∧ Below W.heap.size W w' := by
  have hb : Below W.heap.size W (W.alloc (.cells #[.string ⟨#[97]⟩, .string ⟨#[]⟩, .string ⟨#[98]⟩] 9)) := (Below.refl _ _).alloc (Nat.le_refl _) _
  have h2 : TextsAt 0 (W.alloc (.cells #[.string ⟨#[97]⟩, .string ⟨#[]⟩, .string ⟨#[98]⟩] 9)) (.slice (some ⟨W.heap.size, 0, none⟩) 3 3) [[97], [], [98]] := .inr ⟨_, Nat.zero_le _, rfl, heap_alloc_new W _⟩
  refine (sameTexts_any _ v _ [[97], [], [98]] [[97], [], [98]] (h.below hb) h2.in_ (by decide) (by decide)).mono ?_
  rintro _ w' ⟨rfl, n, rfl⟩
  exact ⟨ret_bool (by simp), below_drewN hb n⟩
theorem al11 (W : World) (h : Base S W) (ev : Value) (he : ErrAt S W ev 3 (some 2)) : Calls Tryz.prog 36 #[ev, .int .i64 3, .int .i64 2] W fun e w' => e = .returned (.bool true) ∧ Below W.heap.size W w' := by
  refine (isAt_any S W ev 3 (some 2) 3 2 h he).mono ?_
  rintro _ w' ⟨rfl, hb⟩
  exact ⟨ret_bool (by simp [isAtB]), hb⟩

set_option maxHeartbeats 2000000 in
set_option maxRecDepth 100000 in
theorem alive_any (w : World) (hB : Base S w) : Calls Tryz.prog 23 #[] w fun e w' => e = .returned (.bool true) ∧ Below w.heap.size w w' := by
  have HB := Lib.hid hB
  clear hB
  go_enter Tryz.func23, Tryz.ntmps23
  go_wp2_with fail
  refine (al1 S _ HB.out).mono ?_
  rintro e w1 ⟨rfl, b1⟩
  have B1 := Lib.hid (HB.out.below b1)
  go_wp2_with fail
  refine (al2 S _ B1.out).mono ?_
  rintro e w2 ⟨ev, rfl, he2, b2⟩
  have B2 := Lib.hid (B1.out.below b2)
  have E2 := Lib.hid he2
  clear he2
  go_wp2_with fail
  refine (al3 S _ B2.out).mono ?_
  rintro e w3 ⟨rfl, b3⟩
  have B3 := Lib.hid (B2.out.below b3)
  have E3 := Lib.hid (E2.out.below b3)
  go_wp2_with fail
  refine (al4 S _ B3.out).mono ?_
  rintro e w4 ⟨lv, rfl, ht4, b4⟩
  have B4 := Lib.hid (B3.out.below b4)
  have E4 := Lib.hid (E3.out.below b4)
  have T4 := Lib.hid ht4
  clear ht4
  go_wp2_with fail
  refine (al5 _).mono ?_
  rintro e w5 ⟨rfl, b5⟩
  have B5 := Lib.hid (B4.out.below b5)
  have E5 := Lib.hid (E4.out.below b5)
  have T5 := Lib.hid (T4.out.below b5)
  go_wp2_with fail
  refine (al11 S _ B5.out ev E5.out).mono ?_
  rintro e w6 ⟨rfl, b6⟩
  have B6 := Lib.hid (B5.out.below b6)
  have T6 := Lib.hid (T5.out.below b6)
  go_wp2_with fail
  refine (al10 _ lv T6.out).mono ?_
  rintro e w7 ⟨rfl, b7⟩
  have B7 := Lib.hid (B6.out.below b7)
  go_wp2_with fail
  refine (al6 S _ B7.out).mono ?_
  rintro e w8 ⟨rfl, b8⟩
  have B8 := Lib.hid (B7.out.below b8)
  go_wp2_with fail
  refine (al7 S _ B8.out).mono ?_
  rintro e w9 ⟨rfl, b9⟩
  have B9 := Lib.hid (B8.out.below b9)
  go_wp2_with fail
  refine (al8 S _ B9.out).mono ?_
  rintro e w10 ⟨rfl, b10⟩
  have B10 := Lib.hid (B9.out.below b10)
  go_wp2_with fail
  refine (al9 S _ B10.out).mono ?_
  rintro e w11 ⟨rfl, b11⟩
  go_wp2_with fail
  go_ret
  exact ⟨rfl, below_trans (below_trans (below_trans (below_trans (below_trans (below_trans (below_trans (below_trans (below_trans (below_trans b1 b2) b3) b4) b5) b6) b7) b8) b9) b10) b11⟩
end
end Go.Proofs.YtjmgkallgflcdaaGreatDoor
