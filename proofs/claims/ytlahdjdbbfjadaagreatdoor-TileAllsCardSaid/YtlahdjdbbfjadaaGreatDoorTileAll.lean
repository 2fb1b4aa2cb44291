/-
  tile.All by its contract: the tiles of a log, in order, or ErrRange.
-/
import Derived.Test.YtlahdjdbbfjadaaGreatDoorTileAllP
import Derived.Test.YtlahdjdbbfjadaaGreatDoorTileOf
import Derived.BigQuiet
namespace Go.Proofs.YtlahdjdbbfjadaaGreatDoor
open Go.RowKit

theorem owns_below {w w' : World} {B : Nat} {e : TypeId} {size : Nat} {v : Value} {n : Nat} {xs : List Value} (h : w.ownsRow B e size v n xs) (hb : Below w.heap.size w w') : w'.ownsRow B e size v n xs := by
  refine ⟨h.1, ?_⟩
  rcases h.2 with h' | ⟨g, cap, cur, rfl, hg, hh, hr⟩
  · exact .inl h'
  · exact .inr ⟨g, cap, cur, rfl, hg, below_heap hb hh, hr⟩
theorem owns_any {B : Nat} {w : World} {t : TypeId} {m : Nat} {v : Value} {n : Nat} {cs : List Value} (h : w.ownsRow B t m v n cs) : ∃ ao cap, v = .slice ao n cap := by
  rcases h.2 with ⟨rfl, rfl⟩ | ⟨g, cap, cur, rfl, _⟩
  · exact ⟨none, 0, rfl⟩
  · exact ⟨_, _, rfl⟩
theorem news3 (W : World) (H : Nat) (hH : W.heap.size = H) (x y z : Value) (t : TypeId) : ∀ j u, [x, y, z][j]? = some u → (W.alloc (.cells #[x, y, z] t)).cell? ((⟨H, 0, none⟩ : Addr).add j) = some u := fun j u hj => by
  subst hH
  have h := heap_alloc_new W (.cells #[x, y, z] t)
  match j, hj with
  | 0, hj => simp at hj; subst hj; simp [Addr.add]
  | 1, hj => simp at hj; subst hj; simp [Addr.add]
  | 2, hj => simp at hj; subst hj; simp [Addr.add]
theorem infoTile : (Tryz.prog.info? 93).map (fun i => (i.zero, i.size, i.bytes)) = some (some (.agg #[.int .u8 0, .int .u64 0, .int .i64 0]), 3, 24) := by kernel_rfl

theorem part_cells (Z v i : Nat) : tcells (part Z v (i + 1)) = tcells (part Z v i) ++ tcell (mkT Z v i) := by rw [part_succ, tcells_app]; simp [tcells]

def AllRel (Z : Nat) (w : World) (vl vL : Value) (wr : World) : Prop :=
  ∃ v : Nat, v ≤ 3 ∧ vL = .int .u8 (v : Int) ∧ wr.ownsRow w.heap.size 93 3 vl (pre Z v).length (tcells (pre Z v)) ∧ Below w.heap.size w wr
def LevRel (Z v : Nat) (w : World) (vl vi : Value) (wr : World) : Prop :=
  ∃ i : Nat, i ≤ nT Z v ∧ vi = .int .u64 (i : Int) ∧ wr.ownsRow w.heap.size 93 3 vl (part Z v i).length (tcells (part Z v i)) ∧ Below w.heap.size w wr

set_option maxHeartbeats 2000000 in
set_option maxRecDepth 100000 in
theorem all_any (Z : Nat) (hZ : Z ≤ 1048576) (w : World) :
    Calls Tryz.prog 19 #[.int .u64 (Z : Int)] w fun e w' => ∃ vl, e = .returned (.tuple #[vl, .nilIface]) ∧ w'.ownsRow w.heap.size 93 3 vl (pre Z 8).length (tcells (pre Z 8)) ∧ Below w.heap.size w w' := by
  obtain ⟨i0, hi, hz⟩ := Option.map_eq_some_iff.1 infoTile
  simp only [Prod.mk.injEq] at hz
  obtain ⟨hz0, hz1, hz2⟩ := hz
  have hZ' : ¬ (1048576 : Int) < Z := by omega
  go_enter Tryz.func19, Tryz.ntmps19
  go_wp2_with fail
  go_loopw [4, 5] (fun vl vL wr => AllRel Z w vl vL wr) (fun _ vL _ => 8 - (intOf vL).toNat)
  case atStart => exact ⟨0, by omega, rfl, World.ownsRow_nil _ _ _ _, Below.refl _ _⟩
  case round =>
    obtain ⟨v, hv, rfl, hown, hbel⟩ := hrel
    obtain ⟨ao, cap, rfl⟩ := owns_any hown
    rename World => wA
    have hsh := shr_cast Z (8 * v)
    by_cases hc : cnt Z v = 0
    · have g1 : ¬ (0 : Int) < (Z : Int) / 2 ^ (8 * v) := by rw [hsh]; unfold cnt at hc; omega
      have hp := pre_stop Z v (by omega) hc
      have HP := Lib.hid hp
      have HO := Lib.hid hown
      have HBL := Lib.hid hbel
      clear hp hown hbel hsh hc
      go_wp2_with fail
      go_ret2
      refine ⟨.slice ao (pre Z v).length cap, rfl, ?_, HBL.out⟩
      rw [← HP.out]
      exact HO.out
    · have g1 : (0 : Int) < (Z : Int) / 2 ^ (8 * v) := by rw [hsh]; exact Int.natCast_pos.2 (Nat.pos_of_ne_zero hc)
      have hv2 : v ≤ 2 := by
        by_cases h3 : 3 ≤ v
        · exact absurd (cnt_3 Z v hZ h3) hc
        · omega
      have HIN := Lib.hid fun i hi W => in_any v i Z (by omega) hi (by omega) W
      have HO := Lib.hid hown
      have HBL := Lib.hid hbel
      clear hown hbel hsh hc
      go_wp2_with fail
      go_loopw [4, 6] (fun vl vi wr => LevRel Z v w vl vi wr) (fun _ vi _ => nT Z v + 1 - (intOf vi).toNat)
      case atStart => exact ⟨0, by omega, rfl, by rw [part_zero]; exact HO.out, HBL.out⟩
      case round =>
        obtain ⟨i, hin, rfl, hown, hbel⟩ := hrel
        obtain ⟨ao2, cap2, rfl⟩ := owns_any hown
        have hn := nT_le Z v hZ
        have hV : inV v i Z = .tuple (if i < nT Z v then #[.agg (tileV v i (inW v i Z)), .bool true] else #[.agg (tileV 0 0 0), .bool false]) := by
          unfold inV
          by_cases hp : i < nT Z v
          · rw [if_pos hp, if_pos ((inP_iff Z v i hZ (by omega)).2 hp)]
          · rw [if_neg hp, if_neg (fun h => hp ((inP_iff Z v i hZ (by omega)).1 h))]
        have HI := Lib.hid (HIN.out i (by omega) wr)
        rw [hV] at HI
        have HOW := Lib.hid hown
        have HBE := Lib.hid hbel
        clear hV HIN hown hbel HO HBL
        by_cases hp : i < nT Z v
        · rw [if_pos hp] at HI
          simp only [tileV] at HI
          go_wp2_with fail
          refine HI.out.mono ?_
          rintro e w1 ⟨rfl, b1⟩
          have hown1 := owns_below HOW.out b1
          have hbel1 := below_trans HBE.out b1
          have hl : (part Z v i).length ≤ 20000 := by
            rw [part_len]
            have := pre_len Z v hZ
            omega
          clear HOW HBE b1
          dsimp only
          go_wp2_with (at_builtin; refine wpList_append_own _ rfl _ _ 61 rfl w.heap.size 93 i0 (.agg #[.int .u8 0, .int .u64 0, .int .i64 0]) 3 24 Tryz.underlying61 hi hz0 hz1 hz2 rfl (by decide) _ _ _ rfl ((hown1.alloc _).alloc _) ⟨w1.heap.size + 1, 0, none⟩ 1 1 (tcell (mkT Z v i)) rfl rfl (by exact news3 _ _ (by simp) _ _ _ _) (by intro u hu; simp [tcell] at hu; rcases hu with rfl | rfl | rfl <;> rfl) (by unfold maxLen; omega) (by omega) (by have := hbel1.size; simp; omega) ?_)
          intro v' w2 hown2 hgrow _
          have hbel2 : Below w.heap.size w w2 := ((hbel1.alloc hbel1.size _).alloc (by have := hbel1.size; simp; omega) _).grown hgrow (by have := hbel1.size; simp; omega) (fun j hj => (hown1.lt j hj).1)
          rw [← part_cells] at hown2
          have HO2 := Lib.hid hown2
          have HB2 := Lib.hid hbel2
          clear hown1 hgrow hbel1 hown2 hbel2
          go_wp2_with fail
          go_roundw
          case rel => exact ⟨i + 1, by omega, by go_num, by rw [part_len, ← Nat.add_assoc, ← part_len]; exact HO2.out, HB2.out⟩
          case measure => simp [intOf]; omega
        · rw [if_neg hp] at HI
          simp only [tileV] at HI
          obtain rfl : i = nT Z v := by omega
          go_wp2_with fail
          refine HI.out.mono ?_
          rintro e w1 ⟨rfl, b1⟩
          have hown1 := owns_below HOW.out b1
          have hbel1 := below_trans HBE.out b1
          have HB1 := Lib.hid (hbel1.alloc hbel1.size (.cells #[.int .u8 0, .int .u64 0, .int .i64 0] 93))
          have HO1 := Lib.hid (hown1.alloc (.cells #[.int .u8 0, .int .u64 0, .int .i64 0] 93))
          clear HOW HBE b1 hown1 hbel1
          dsimp only
          go_wp2_with fail
          go_roundw
          case rel =>
            refine ⟨v + 1, by omega, by go_num, ?_, HB1.out⟩
            have := HO1.out
            rw [← part_full]
            exact this
          case measure => simp [intOf]; omega

set_option maxRecDepth 100000 in
theorem all_over (S : Nat → Addr) (Z : Nat) (hZ : 1048576 < Z) (hZ2 : Z ≤ 18446744073709551615) (w : World) (hB : Base S w) :
    Calls Tryz.prog 19 #[.int .u64 (Z : Int)] w fun e w' => e = .returned (.tuple #[.slice none 0 0, errV S 5]) ∧ Below w.heap.size w w' := by
  have g5 := hB.var 5 (by omega) (by omega)
  simp only [errG, errV] at g5 ⊢
  have hZ' : (1048576 : Int) < Z := by omega
  clear hB
  go_enter Tryz.func19, Tryz.ntmps19
  go_wp2_with fail
  go_quiet (fail)
  go_wp2_with fail
  go_ret2
  exact ⟨rfl, below_drewN (Below.refl _ _) _⟩
end Go.Proofs.YtlahdjdbbfjadaaGreatDoor
