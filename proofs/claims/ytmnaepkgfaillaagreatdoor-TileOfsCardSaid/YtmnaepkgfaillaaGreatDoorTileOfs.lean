/-
  cartularylaw11.TileOfs: for each Coord the program's Of answers what the reference's Of answers, and the chapter's examples hold: the law's function returns true, for every argument, and never panics; it writes to no memory that was there.
-/
import Derived.Test.YtmnaepkgfaillaaGreatDoorTileLives
import Derived.Test.YtmnaepkgfaillaaGreatDoorTileOfsFrame
namespace Go.Proofs.YtmnaepkgfaillaaGreatDoor
open Go.RowKit

theorem ofV_form (L I : Nat) : ∃ x y z a b : Int, ∃ k : Bool, ofV L I = .tuple #[.agg #[.int .u8 x, .int .u64 y, .int .i64 z], .int .i64 a, .int .i64 b, .bool k] := by
  unfold ofV
  split
  · exact ⟨_, _, _, _, _, _, rfl⟩
  · exact ⟨_, _, _, _, _, _, rfl⟩
set_option maxHeartbeats 2000000 in
set_option maxRecDepth 100000 in
theorem tileOfs_walk : TileOfsFrame.Walk := by
  intro S cl ci w hc hB hT
  obtain ⟨h1, h2, h3, h4⟩ := hc
  obtain ⟨L, rfl⟩ := Int.eq_ofNat_of_zero_le h1
  obtain ⟨I, rfl⟩ := Int.eq_ofNat_of_zero_le h3
  obtain ⟨x, y, z, a, b, k, hv⟩ := ofV_form L I
  have HO := Lib.hid fun W => of_any L I (by omega) (by omega) W
  have HR := Lib.hid fun W => refOf_any L I (by omega) (by omega) W
  rw [hv] at HO HR
  have HBS := Lib.hid hB
  have HTB := Lib.hid hT
  clear hv hB hT
  have ex : (x == x) = true := beq_self_eq_true x
  have ey : (y == y) = true := beq_self_eq_true y
  have ez : (z == z) = true := beq_self_eq_true z
  have ea : (a == a) = true := beq_self_eq_true a
  have eb : (b == b) = true := beq_self_eq_true b
  have ek : (k == k) = true := beq_self_eq_true k
  go_enter Tryz.func3, Tryz.ntmps3
  go_wp2_with fail
  refine (HO.out _).mono ?_
  rintro e w1 ⟨rfl, b1⟩
  have R0 := Lib.hid (below_heap b1 (heap_one w _))
  have B1 := Lib.hid (below_trans (below_one w _) b1)
  have c0 := cell_of R0.out 0 (v := .int .u8 (L : Int)) rfl
  have c1 := cell_of R0.out 1 (v := .int .u64 (I : Int)) rfl
  have l0 := lt_of_heap R0.out
  clear b1
  go_wp2_with fail
  refine (HR.out _).mono ?_
  rintro e w2 ⟨rfl, b2⟩
  have R1 := Lib.hid (below_heap b2 (heap_one w1 _))
  have B2 := Lib.hid (below_trans (B1.out.alloc B1.out.size (.cells #[.int .u8 x, .int .u64 y, .int .i64 z] 26)) b2)
  obtain ⟨d0, d1, d2⟩ := cells3 R1.out
  have l1 := lt_of_heap R1.out
  have b3 := B2.out.alloc B2.out.size (.cells #[.int .u8 x, .int .u64 y, .int .i64 z] 26)
  have HL := Lib.hid (livesT_any S _ (HBS.out.below b3) (tab_below HTB.out b3))
  have B3 := Lib.hid b3
  clear b2 b3
  go_wp2_with fail
  refine HL.out.mono ?_
  rintro e w4 ⟨rfl, b4⟩
  have B4 := Lib.hid (below_trans B3.out b4)
  clear b4
  go_wp2_with fail
  go_ret
  exact ⟨rfl, B4.out⟩
theorem tileOfs_card : Rows.TileOfsCardSaid := TileOfsFrame.card tileOfs_walk
#print axioms tileOfs_card
end Go.Proofs.YtmnaepkgfaillaaGreatDoor
