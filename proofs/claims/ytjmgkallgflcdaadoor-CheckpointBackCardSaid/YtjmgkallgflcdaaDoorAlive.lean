/-
  cartularylaw03.alive: what the document says of some short texts.
-/
import Derived.Test.YtjmgkallgflcdaaDoorF64
import Derived.Test.YtjmgkallgflcdaaDoorName2
import Derived.Test.YtjmgkallgflcdaaDoorSameT
namespace Go.Proofs.YtjmgkallgflcdaaDoor
open Go.RowKit

theorem ErrAt.zero {S : Nat → Addr} {w : World} {v : Value} (h : ErrAt S w v 0 none) : v = .nilIface := by
  rcases h with ⟨h, _⟩ | ⟨h, _⟩ | ⟨h, _⟩
  · exact h
  · omega
  · omega
theorem below_drewN' (w : World) (n : Nat) : Below w.heap.size w (w.drewN n) := below_drewN (Below.refl _ _) n

theorem fromBase64_at (S : Nat → Addr) (s : ByteArray) (l : List UInt8) (x : List UInt8) (c : Nat) (p : Option Int) (hl : s.data.toList = l) (hr : fromB64 l = (x, c, p)) (w : World) (hs : s.size ≤ 9223372036854775807) (hB : Base S w) :
    Calls Tryd.prog 36 #[.string s] w (Told S w (.string ⟨x.toArray⟩) c p) := by
  have := fromBase64_any S s w hs hB
  rw [hl, hr] at this
  exact this
theorem fromDecimal_at (S : Nat → Addr) (s : ByteArray) (l : List UInt8) (x : Nat) (c : Nat) (p : Option Int) (hl : s.data.toList = l) (hr : fromDec l = (x, c, p)) (w : World) (hs : s.size ≤ 9223372036854775807) (hB : Base S w) :
    Calls Tryd.prog 35 #[.string s] w (Told S w (.int .u64 (x : Int)) c p) := by
  have := fromDecimal_any S s w hs hB
  rw [hl, hr] at this
  exact this
theorem big20 : fromDec [49, 56, 52, 52, 54, 55, 52, 52, 48, 55, 51, 55, 48, 57, 53, 53, 49, 54, 49, 53] = (18446744073709551615, 0, none) := by kernel_rfl

section
variable (S : Nat → Addr)
theorem al1 (W : World) (h : Base S W) : Calls Tryd.prog 36 #[.string ⟨#[81, 85, 73, 61]⟩] W fun e w' => e = .returned (.tuple #[.string ⟨#[65, 66]⟩, .nilIface]) ∧ Below W.heap.size W w' := by
  refine (fromBase64_at S ⟨#[81, 85, 73, 61]⟩ [81, 85, 73, 61] [65, 66] 0 none rfl (by kernel_rfl) W (by decide) h).mono ?_
  rintro _ w' ⟨ev, rfl, he, hb⟩
  rw [he.zero]
  exact ⟨rfl, hb⟩
theorem al2 (W : World) (h : Base S W) : Calls Tryd.prog 36 #[.string ⟨#[81, 82, 61, 61]⟩] W fun e w' => ∃ ev, e = .returned (.tuple #[.string ⟨#[]⟩, ev]) ∧ ErrAt S w' ev 3 (some 2) ∧ Below W.heap.size W w' := by
  refine (fromBase64_at S ⟨#[81, 82, 61, 61]⟩ [81, 82, 61, 61] [] 3 (some 2) rfl (by kernel_rfl) W (by decide) h).mono ?_
  rintro _ w' ⟨ev, rfl, he, hb⟩
  exact ⟨ev, rfl, he, hb⟩
theorem al3 (W : World) (h : Base S W) : Calls Tryd.prog 35 #[.string ⟨#[49, 56, 52, 52, 54, 55, 52, 52, 48, 55, 51, 55, 48, 57, 53, 53, 49, 54, 49, 53]⟩] W fun e w' => e = .returned (.tuple #[.int .u64 18446744073709551615, .nilIface]) ∧ Below W.heap.size W w' := by
  refine (fromDecimal_at S ⟨#[49, 56, 52, 52, 54, 55, 52, 52, 48, 55, 51, 55, 48, 57, 53, 53, 49, 54, 49, 53]⟩ _ _ 0 none rfl big20 W (by decide) h).mono ?_
  rintro _ w' ⟨ev, rfl, he, hb⟩
  rw [he.zero]
  exact ⟨rfl, hb⟩
theorem al5 (W : World) : Calls Tryd.prog 21 #[.string ⟨#[65]⟩] W fun e w' => e = .returned (.string ⟨#[81, 81, 61, 61]⟩) ∧ Below W.heap.size W w' := by
  refine (base64_any ⟨#[65]⟩ W (by decide)).mono ?_
  have e : b64 [65] = [81, 81, 61, 61] := by kernel_rfl
  rintro _ w' ⟨rfl, hb⟩
  refine ⟨?_, hb⟩
  show Ending.returned (.string ⟨(b64 [65]).toArray⟩) = _
  rw [e]
theorem al6 (W : World) (h : Base S W) : Calls Tryd.prog 7 #[.string ⟨#[97]⟩] W fun e w' => e = .returned (.bool true) ∧ Below W.heap.size W w' := by
  refine (name_any S ⟨#[97]⟩ W (by decide) h).mono ?_
  rintro _ w' ⟨rfl, hb⟩
  exact ⟨ret_bool (show nameOf [97] = true by kernel_rfl), hb⟩
theorem al7 (W : World) (h : Base S W) : Calls Tryd.prog 7 #[.string ⟨#[97, 32, 98]⟩] W fun e w' => e = .returned (.bool false) ∧ Below W.heap.size W w' := by
  refine (name_any S ⟨#[97, 32, 98]⟩ W (by decide) h).mono ?_
  rintro _ w' ⟨rfl, hb⟩
  exact ⟨ret_bool (show nameOf [97, 32, 98] = false by kernel_rfl), hb⟩
theorem al8 (W : World) (h : Base S W) : Calls Tryd.prog 8 #[.string ⟨#[97, 32, 98]⟩] W fun e w' => e = .returned (.bool true) ∧ Below W.heap.size W w' := by
  refine (plain_any S ⟨#[97, 32, 98]⟩ W (by decide) h).mono ?_
  rintro _ w' ⟨rfl, hb⟩
  exact ⟨ret_bool (show plainOf [97, 32, 98] = true by kernel_rfl), hb⟩
theorem al9 (W : World) (h : Base S W) : Calls Tryd.prog 8 #[.string ⟨#[97, 10]⟩] W fun e w' => e = .returned (.bool false) ∧ Below W.heap.size W w' := by
  refine (plain_any S ⟨#[97, 10]⟩ W (by decide) h).mono ?_
  rintro _ w' ⟨rfl, hb⟩
  exact ⟨ret_bool (show plainOf [97, 10] = false by kernel_rfl), hb⟩
theorem al10 (W : World) (v : Value) (h : TextsIn W v [[97], [], [98]]) :
    Calls Tryd.prog 26 #[v, .slice (some ⟨W.heap.size, 0, none⟩) 3 3] (W.alloc (.cells #[.string ⟨#[97]⟩, .string ⟨#[]⟩, .string ⟨#[98]⟩] 9)) fun e w' => e = .returned (.bool true) ∧ Below W.heap.size W w' := by
  have hb : Below W.heap.size W (W.alloc (.cells #[.string ⟨#[97]⟩, .string ⟨#[]⟩, .string ⟨#[98]⟩] 9)) := (Below.refl _ _).alloc (Nat.le_refl _) _
  have h2 : TextsAt 0 (W.alloc (.cells #[.string ⟨#[97]⟩, .string ⟨#[]⟩, .string ⟨#[98]⟩] 9)) (.slice (some ⟨W.heap.size, 0, none⟩) 3 3) [[97], [], [98]] := .inr ⟨_, Nat.zero_le _, rfl, heap_alloc_new W _⟩
  refine (sameTexts_any _ v _ [[97], [], [98]] [[97], [], [98]] (h.below hb) h2.in_ (by decide) (by decide)).mono ?_
  rintro _ w' ⟨rfl, n, rfl⟩
  exact ⟨ret_bool (by simp), below_drewN hb n⟩
theorem al11 (W : World) (h : Base S W) (ev : Value) (he : ErrAt S W ev 3 (some 2)) : Calls Tryd.prog 15 #[ev, .int .i64 3, .int .i64 2] W fun e w' => e = .returned (.bool true) ∧ Below W.heap.size W w' := by
  refine (isAt_any S W ev 3 (some 2) 3 2 h he).mono ?_
  rintro _ w' ⟨rfl, hb⟩
  exact ⟨ret_bool (by simp [isAtB]), hb⟩

end
end Go.Proofs.YtjmgkallgflcdaaDoor
