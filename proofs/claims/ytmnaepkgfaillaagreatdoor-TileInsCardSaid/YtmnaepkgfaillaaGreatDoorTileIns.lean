/-
  cartularylaw11.TileIns: for each level, index and size the program's In answers what the reference's In answers, and the chapter's examples hold: the law's function returns true, for every argument, and never panics; it writes to no memory that was there.
-/
import Derived.Test.YtmnaepkgfaillaaGreatDoorTileLives
import Derived.Test.YtmnaepkgfaillaaGreatDoorTileInsFrame
namespace Go.Proofs.YtmnaepkgfaillaaGreatDoor
open Go.RowKit

theorem inV_form (L I Z : Nat) : ∃ x y z : Int, ∃ k : Bool, inV L I Z = .tuple #[.agg #[.int .u8 x, .int .u64 y, .int .i64 z], .bool k] := by
  unfold inV
  split
  · exact ⟨_, _, _, _, rfl⟩
  · exact ⟨_, _, _, _, rfl⟩
set_option maxHeartbeats 2000000 in
set_option maxRecDepth 100000 in
theorem tileIns_walk : TileInsFrame.Walk := by
  intro S b0 n1 n2 w h0 h1 h2 hB hT
  obtain ⟨L, rfl⟩ := Int.eq_ofNat_of_zero_le h0.1
  obtain ⟨I, rfl⟩ := Int.eq_ofNat_of_zero_le h1.1
  obtain ⟨Z, rfl⟩ := Int.eq_ofNat_of_zero_le h2.1
  obtain ⟨x, y, z, k, hv⟩ := inV_form L I Z
  have HO := Lib.hid fun W => in_any L I Z (by omega) (by omega) (by omega) W
  have HR := Lib.hid fun W => refIn_any L I Z (by omega) (by omega) (by omega) W
  rw [hv] at HO HR
  have HBS := Lib.hid hB
  have HTB := Lib.hid hT
  clear hv hB hT
  have ex : (x == x) = true := beq_self_eq_true x
  have ey : (y == y) = true := beq_self_eq_true y
  have ez : (z == z) = true := beq_self_eq_true z
  have ek : (k == k) = true := beq_self_eq_true k
  go_enter Tryz.func4, Tryz.ntmps4
  go_wp2_with fail
  refine (HO.out _).mono ?_
  rintro e w1 ⟨rfl, b1⟩
  have B1 := Lib.hid b1
  clear b1
  go_wp2_with fail
  refine (HR.out _).mono ?_
  rintro e w2 ⟨rfl, b2⟩
  have R1 := Lib.hid (below_heap b2 (heap_one w1 _))
  have B2 := Lib.hid (below_trans (B1.out.alloc B1.out.size (.cells #[.int .u8 x, .int .u64 y, .int .i64 z] 26)) b2)
  obtain ⟨d0, d1, d2⟩ := cells3 R1.out
  have l1 := lt_of_heap R1.out
  have b3 := B2.out.alloc B2.out.size (.cells #[.int .u8 x, .int .u64 y, .int .i64 z] 26)
  have HL := Lib.hid (livesT_any S _ (HBS.out.below b3) (tab_below HTB.out b3))
  have B3 := Lib.hid b3
  clear b2 b3
  go_wp2_with fail
  refine HL.out.mono ?_
  rintro e w4 ⟨rfl, b4⟩
  have B4 := Lib.hid (below_trans B3.out b4)
  clear b4
  go_wp2_with fail
  go_ret
  exact ⟨rfl, B4.out⟩
theorem tileIns_card : Rows.TileInsCardSaid := TileInsFrame.card tileIns_walk
#print axioms tileIns_card
end Go.Proofs.YtmnaepkgfaillaaGreatDoor
