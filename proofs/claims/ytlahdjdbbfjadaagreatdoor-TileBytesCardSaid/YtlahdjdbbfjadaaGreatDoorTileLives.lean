/-
  cartularylaw11.lives is true.
-/
import Derived.Test.YtlahdjdbbfjadaaGreatDoorTileParse
import Derived.Test.YtlahdjdbbfjadaaGreatDoorTileOf
namespace Go.Proofs.YtlahdjdbbfjadaaGreatDoor
open Go.RowKit

theorem parse_name (L I : Nat) (W : Int) (h : MayT L I W) : parseT (nameT L I W.toNat) = some (L, I, W.toNat) := by
  obtain ⟨k, e1, e2, e3⟩ := read_prog L I W h
  have e3' : pW (nameT L I W.toNat) = W.toNat := by omega
  unfold parseT
  rw [if_pos ⟨k, by rw [e1, e2, e3]; exact h, by rw [e1, e2, e3']⟩, e1, e2, e3']
theorem dec3 : Lib.decDigits 3 = [51] := Lib.decDigits_one (by omega)
theorem dec0 : Lib.decDigits 0 = [48] := Lib.decDigits_one (by omega)
theorem dec1 : Lib.decDigits 1 = [49] := Lib.decDigits_one (by omega)
theorem dec44 : Lib.decDigits 44 = [52, 52] := by
  rw [decDigits_snoc (by omega), Lib.decDigits_one (by omega)]
  rfl
theorem decBig : Lib.decDigits 1234067 = [49, 50, 51, 52, 48, 54, 55] := by
  rw [decDigits_snoc (by omega), decDigits_snoc (by omega), decDigits_snoc (by omega), decDigits_snoc (by omega), decDigits_snoc (by omega), decDigits_snoc (by omega), Lib.decDigits_one (by omega)]
  rfl
theorem lives_of : ofV 9 1 = .tuple #[.agg (tileV 1 0 256), .int .i64 2, .int .i64 2, .bool true] := by
  unfold ofV
  rw [if_pos (by decide)]
  rfl
theorem lives_in : inV 0 1 300 = .tuple #[.agg (tileV 0 1 44), .bool true] := by
  unfold inV
  rw [if_pos (by decide)]
  rfl
theorem lives_path (S : Nat → Addr) : pathV S 3 1234067 256 = .tuple #[.string ⟨#[116, 105, 108, 101, 47, 51, 47, 120, 48, 48, 49, 47, 120, 50, 51, 52, 47, 48, 54, 55]⟩, .nilIface] := by
  unfold pathV
  rw [if_pos (by decide), show (256 : Int).toNat = 256 from rfl, nameT, dec3, decBig]
  rfl
theorem lives_parse (S : Nat → Addr) : parseV S [116, 105, 108, 101, 47, 48, 47, 48, 48, 49, 46, 112, 47, 52, 52] = .tuple #[.agg (tileV 0 1 44), .nilIface] := by
  have h := parse_name 0 1 44 (by decide)
  have e : nameT 0 1 (44 : Int).toNat = [116, 105, 108, 101, 47, 48, 47, 48, 48, 49, 46, 112, 47, 52, 52] := by
    rw [show (44 : Int).toNat = 44 from rfl, nameT, dec0, dec1, partL, if_pos (by decide), dec44]
    rfl
  rw [e] at h
  unfold parseV
  rw [h]
  rfl
set_option maxRecDepth 100000 in
theorem encode_nil (S : Nat → Addr) (w : World) (hB : Base S w) : Calls Tryz.prog 9 #[.slice none 0 0] w fun e w' => e = .returned (.tuple #[.string ⟨#[]⟩, errV S 2]) ∧ Below w.heap.size w w' := by
  have g2 := hB.var 2 (by omega) (by omega)
  simp only [errG, errV] at g2 ⊢
  clear hB
  go_enter Tryz.func9, Tryz.ntmps9
  go_wp2_with fail
  go_quiet (fail)
  go_wp2_with fail
  go_ret2
  exact ⟨rfl, below_drewN (Below.refl _ _) _⟩
set_option maxHeartbeats 2000000 in
set_option maxRecDepth 100000 in
theorem livesT_any (S : Nat → Addr) (w : World) (hB : Base S w) (htab : Tab w) :
    Calls Tryz.prog 18 #[] w fun e w' => e = .returned (.bool true) ∧ Below w.heap.size w w' := by
  have HOF := Lib.hid fun W => (of_any 9 1 (by omega) (by omega) W).mono (R' := fun e w' => e = .returned (.tuple #[.agg (tileV 1 0 256), .int .i64 2, .int .i64 2, .bool true]) ∧ Below W.heap.size W w') (fun e w' h => ⟨by rw [h.1, lives_of], h.2⟩)
  have HIN := Lib.hid fun W => (in_any 0 1 300 (by omega) (by omega) (by omega) W).mono (R' := fun e w' => e = .returned (.tuple #[.agg (tileV 0 1 44), .bool true]) ∧ Below W.heap.size W w') (fun e w' h => ⟨by rw [h.1, lives_in], h.2⟩)
  have HPA := Lib.hid fun W hB hT => (path_any S 3 1234067 256 (by omega) (by omega) W hB hT).mono (R' := fun e w' => e = .returned (.tuple #[.string ⟨#[116, 105, 108, 101, 47, 51, 47, 120, 48, 48, 49, 47, 120, 50, 51, 52, 47, 48, 54, 55]⟩, .nilIface]) ∧ Below W.heap.size W w') (fun e w' h => ⟨by rw [h.1, lives_path], h.2⟩)
  have HPR := Lib.hid fun W hB hT => (parse_any S ⟨#[116, 105, 108, 101, 47, 48, 47, 48, 48, 49, 46, 112, 47, 52, 52]⟩ W (by decide) hB hT).mono (R' := fun e w' => e = .returned (.tuple #[.agg (tileV 0 1 44), .nilIface]) ∧ Below W.heap.size W w') (fun e w' h => ⟨by rw [h.1]; exact congrArg Ending.returned (lives_parse S), h.2⟩)
  have HB := Lib.hid hB
  have HT := Lib.hid htab
  clear hB htab
  go_enter Tryz.func18, Tryz.ntmps18
  go_wp2_with fail
  refine (HOF.out _).mono ?_
  rintro e w1 ⟨rfl, b1⟩
  have B1 := Lib.hid b1
  clear b1
  simp only [tileV]
  go_wp2_with fail
  have b2a := (B1.out.alloc B1.out.size (.cells #[.int .u8 1, .int .u64 0, .int .i64 256] 93))
  refine (HPA.out _ (HB.out.below b2a) (tab_below HT.out b2a)).mono ?_
  rintro e w2 ⟨rfl, b2⟩
  have R1 := Lib.hid (below_heap b2 (heap_one w1 _))
  have B2 := Lib.hid (below_trans b2a b2)
  clear b2a b2
  go_wp2_with fail
  refine (HPR.out _ (HB.out.below B2.out) (tab_below HT.out B2.out)).mono ?_
  rintro e w3 ⟨rfl, b3⟩
  have R1 := Lib.hid (below_heap b3 R1.out)
  have B3 := Lib.hid (below_trans B2.out b3)
  clear b3
  simp only [tileV]
  go_wp2_with fail
  refine (HIN.out _).mono ?_
  rintro e w4 ⟨rfl, b4⟩
  have R1 := Lib.hid (below_heap b4 ((heap_alloc_old _ _ (lt_of_heap R1.out)).trans R1.out))
  have R2 := Lib.hid (below_heap b4 (heap_one w3 _))
  have B4 := Lib.hid (below_trans (B3.out.alloc B3.out.size (.cells #[.int .u8 0, .int .u64 1, .int .i64 44] 93)) b4)
  clear b4
  simp only [tileV]
  go_wp2_with fail
  have b5a := (B4.out.alloc B4.out.size (.cells #[.int .u8 0, .int .u64 1, .int .i64 44] 93))
  refine (encode_nil S _ (HB.out.below b5a)).mono ?_
  rintro e w5 ⟨rfl, b5⟩
  have r1 := below_heap b5 ((heap_alloc_old _ _ (lt_of_heap R1.out)).trans R1.out)
  have r2 := below_heap b5 ((heap_alloc_old _ _ (lt_of_heap R2.out)).trans R2.out)
  have r3 := below_heap b5 (heap_one w4 _)
  have b5w := below_trans b5a b5
  obtain ⟨x0, x1, x2⟩ := cells3 r1
  obtain ⟨y0, y1, y2⟩ := cells3 r2
  obtain ⟨z0, z1, z2⟩ := cells3 r3
  have B5 := Lib.hid b5w
  have HIS := Lib.hid (is_any S w5 (errV S 2) 2 none 2 (HB.out.below b5w) (.inr (.inl ⟨by omega, by omega, rfl, rfl⟩)))
  clear r1 r2 r3 b5 b5a b5w
  go_wp2_with fail
  refine HIS.out.mono ?_
  rintro e w6 ⟨rfl, b6⟩
  have B6 := Lib.hid (below_trans B5.out b6)
  have his : isB 2 none 2 = true := by decide
  clear b6
  rw [his]
  go_wp2_with fail
  go_ret
  exact ⟨rfl, B6.out⟩
end Go.Proofs.YtlahdjdbbfjadaaGreatDoor
