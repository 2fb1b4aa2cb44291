/-
  Layer 11: may (a tile), Of: the program's functions and the reference's, by contracts.
-/
import Derived.Test.YtlahdjdbbfjadaaGreatDoorTileIn
import Derived.Test.YtlahdjdbbfjadaaGreatDoorTileP
namespace Go.Proofs.YtlahdjdbbfjadaaGreatDoor
open Go.RowKit

theorem cells3 {W : World} {g : Nat} {x y z : Value} {t : TypeId} {fr : Nat × Nat} (h : W.heap[g]? = some (.cells #[x, y, z] t fr)) : W.cell? ⟨g, 0, none⟩ = some x ∧ W.cell? ⟨g, 1, none⟩ = some y ∧ W.cell? ⟨g, 2, none⟩ = some z :=
  ⟨cell_of h 0 rfl, cell_of h 1 rfl, cell_of h 2 rfl⟩
theorem may_div (m L : Nat) : m ≤ 9223372036854775808 / 2 ^ (8 * L) ↔ m * 2 ^ (8 * L) ≤ 9223372036854775808 := Nat.le_div_iff_mul_le (Nat.two_pow_pos _)
set_option maxHeartbeats 1000000 in
set_option maxRecDepth 100000 in
theorem tileMay_any (L I : Nat) (W : Int) (_hL : L ≤ 255) (_hI : I ≤ 18446744073709551615) (w : World) :
    Calls Tryz.prog 127 #[.agg (tileV L I W)] w fun e w' => e = .returned (.bool (decide (MayT L I W))) ∧ Below w.heap.size w w' := by
  unfold tileV
  by_cases h1 : L ≤ 7
  · have g1 : ¬ (7 : Int) < L := by omega
    by_cases h2 : 1 ≤ W
    · have g2 : ¬ W < 1 := by omega
      by_cases h3 : W ≤ 256
      · have g3 : ¬ 256 < W := by omega
        obtain ⟨k, rfl⟩ : ∃ k : Nat, W = k := ⟨W.toNat, by omega⟩
        by_cases h4 : I < 36028797018963968
        · have g4 : ¬ (36028797018963968 : Int) ≤ I := by omega
          have hsc := shr_cast 9223372036854775808 (8 * L)
          have hiff : MayT L I k ↔ (I : Int) * 256 + (k : Int) ≤ 9223372036854775808 / 2 ^ (8 * L) := by
            have e : (9223372036854775808 / 2 ^ (8 * L) : Int) = ((9223372036854775808 / 2 ^ (8 * L) : Nat) : Int) := hsc
            rw [e]
            constructor
            · rintro ⟨_, _, _, _, h⟩
              omega
            · intro h
              exact ⟨h1, h2, h3, h4, by omega⟩
          have HI := Lib.hid hiff
          clear hiff hsc
          go_enter Tryz.func127, Tryz.ntmps127
          go_wp2_with fail
          go_ret
          refine ⟨ret_bool ?_, below_one _ _⟩
          exact decide_eq_decide.2 HI.out.symm
        · have g4 : (36028797018963968 : Int) ≤ I := by omega
          rw [decide_eq_false (fun h : MayT L I k => h4 h.2.2.2.1)]
          go_enter Tryz.func127, Tryz.ntmps127
          go_wp2_with fail
          go_ret
          exact ⟨rfl, below_one _ _⟩
      · have g3 : 256 < W := by omega
        rw [decide_eq_false (fun h : MayT L I W => h3 h.2.2.1)]
        go_enter Tryz.func127, Tryz.ntmps127
        go_wp2_with fail
        go_ret
        exact ⟨rfl, below_one _ _⟩
    · have g2 : W < 1 := by omega
      rw [decide_eq_false (fun h : MayT L I W => h2 h.2.1)]
      go_enter Tryz.func127, Tryz.ntmps127
      go_wp2_with fail
      go_ret
      exact ⟨rfl, below_one _ _⟩
  · have g1 : (7 : Int) < L := by omega
    rw [decide_eq_false (fun h : MayT L I W => h1 h.1)]
    go_enter Tryz.func127, Tryz.ntmps127
    go_wp2_with fail
    go_ret
    exact ⟨rfl, below_one _ _⟩
theorem set1_heap {W : World} {g : Nat} {a b c z : Value} {t : TypeId} {fr : Nat × Nat} (h : W.heap[g]? = some (.cells #[a, b, c] t fr)) :
    (W.setCell ⟨g, 2, none⟩ z).heap[g]? = some (.cells #[a, b, z] t fr) := by
  simp [World.setCell, Array.getElem?_modify, h]
theorem of_eqs {L I : Nat} (h : WholeP L I) : ((IntKind.u64.wrap ((IntKind.u64.wrap ((I : Int) * 2 ^ (L % 8))).tdiv 256)) = ((I * 2 ^ (L % 8) / 256 : Nat) : Int) ∧ wrap64 ((IntKind.u64.wrap ((I : Int) * 2 ^ (L % 8))).tmod 256) = ((I * 2 ^ (L % 8) % 256 : Nat) : Int) ∧ wrap64 ((2 : Int) ^ (L % 8)) = ((2 ^ (L % 8) : Nat) : Int)) := by
  have h1 : 2 ^ (L % 8) ≤ 2 ^ L := Nat.pow_le_pow_right (by omega) (Nat.mod_le _ _)
  have h2 : I * 2 ^ (L % 8) ≤ (I + 1) * 2 ^ L := Nat.mul_le_mul (by omega) h1
  have h3 : 2 ^ (L % 8) ≤ 2 ^ 7 := Nat.pow_le_pow_right (by omega) (by omega)
  have h4 := h.2
  have e : ((I : Int) * 2 ^ (L % 8)) = ((I * 2 ^ (L % 8) : Nat) : Int) := by rw [Int.natCast_mul, Int.natCast_pow]; rfl
  have e2 : ((2 : Int) ^ (L % 8)) = ((2 ^ (L % 8) : Nat) : Int) := by rw [Int.natCast_pow]; rfl
  rw [e, e2]
  generalize 2 ^ (L % 8) = q at *
  generalize I * q = m at *
  have hw : IntKind.u64.wrap (m : Int) = (m : Int) := by rw [IntKind.wrap_u64]; omega
  rw [hw, Int.tdiv_eq_ediv_of_nonneg (by omega), Int.tmod_eq_emod_of_nonneg (by omega), IntKind.wrap_u64, IntWalk.wrap64_in _ (by omega), IntWalk.wrap64_in _ (by omega)]
  exact ⟨by omega, by omega, rfl⟩
/-- What Of answers. -/
def ofV (L I : Nat) : Value := .tuple (if WholeP L I then #[.agg (tileV ((L / 8 : Nat) : Int) ((I * 2 ^ (L % 8) / 256 : Nat) : Int) (if L / 8 = 7 then 128 else 256)), .int .i64 ((I * 2 ^ (L % 8) % 256 : Nat) : Int), .int .i64 ((2 ^ (L % 8) : Nat) : Int), .bool true]
  else #[.agg (tileV 0 0 0), .int .i64 0, .int .i64 0, .bool false])
set_option maxHeartbeats 1000000 in
set_option maxRecDepth 100000 in
theorem of_any (L I : Nat) (hL : L ≤ 255) (hI : I ≤ 18446744073709551615) (w : World) :
    Calls Tryz.prog 83 #[.agg #[.int .u8 L, .int .u64 I]] w fun e w' => e = .returned (ofV L I) ∧ Below w.heap.size w w' := by
  have HS := Lib.hid fun W => span_any L I hL hI W
  unfold ofV
  by_cases h : WholeP L I
  · rw [if_pos h]
    simp only [if_pos h] at HS
    have h63 := h.1
    have HE := Lib.hid (of_eqs h)
    have HWD := Lib.hid fun W => widest_any (L / 8) (by omega) W
    generalize (if L / 8 = 7 then (128 : Int) else 256) = wd at HWD ⊢
    go_enter Tryz.func83, Tryz.ntmps83
    go_wp2_with fail
    refine (HS.out _).mono ?_
    rintro e w1 ⟨rfl, b1⟩
    have h0 := below_heap b1 (heap_2a w _ _)
    have c0 := cell_of h0 0 (v := .int .u8 (L : Int)) rfl
    have c1 := cell_of h0 1 (v := .int .u64 (I : Int)) rfl
    have r0 := below_heap b1 (heap_2b w _ _)
    have d0 := cell_of r0 0 (v := .int .u8 0) rfl
    have d1 := cell_of r0 1 (v := .int .u64 0) rfl
    have d2 := cell_of r0 2 (v := .int .i64 0) rfl
    have f0 := frozen_row r0
    have HB := Lib.hid (below_trans (below_two w _ _) b1)
    have R0 := Lib.hid r0
    have l0 := lt_of_heap h0
    have l1 := lt_of_heap r0
    clear h0 r0 b1
    go_wp2_with fail
    refine (HWD.out _).mono ?_
    rintro e w2 ⟨rfl, hw2⟩
    have R2 : w2.heap[w.heap.size + 1]? = some (.cells #[.int .u8 ((L : Int) / 8), .int .u64 (IntKind.u64.wrap ((IntKind.u64.wrap ((I : Int) * 2 ^ (L % 8))).tdiv 256)), .int .i64 0] 93 (0, 0)) := by
      rw [← hw2, heap_alloc_old _ _ (by simpa using l1)]
      exact set3_heap R0.out
    have HB2 : Below w.heap.size w w2 := by
      rw [← hw2]
      exact (((HB.out.setCell (p := ⟨w.heap.size + 1, 0, none⟩) (by simp) _).setCell (p := ⟨w.heap.size + 1, 1, none⟩) (by simp) _).setCell (p := ⟨w.heap.size + 1, 2, none⟩) (by simp) _).alloc (by simp; omega) _
    obtain ⟨d0, d1, d2⟩ := cells3 R2
    have f0 := frozen_row R2
    have R2 := Lib.hid R2
    have HB2 := Lib.hid HB2
    clear hw2 HB R0 c0 c1 l0 l1
    go_wp2_with fail
    refine ret_tile3 rfl (w.heap.size + 1) _ _ _ _ _ _ (set3_heap (set1_heap R2.out)) rfl rfl rfl rfl rfl ⟨?_, (((HB2.out.setCell (p := ⟨w.heap.size + 1, 2, none⟩) (by simp) _).setCell (p := ⟨w.heap.size + 1, 0, none⟩) (by simp) _).setCell (p := ⟨w.heap.size + 1, 1, none⟩) (by simp) _).setCell (p := ⟨w.heap.size + 1, 2, none⟩) (by simp) _⟩
    obtain ⟨e1, e2, e3⟩ := HE.out
    rw [← e1, ← e2, ← e3]
    rfl
  · rw [if_neg h]
    simp only [if_neg h] at HS
    go_enter Tryz.func83, Tryz.ntmps83
    go_wp2_with fail
    refine (HS.out _).mono ?_
    rintro e w1 ⟨rfl, b1⟩
    have r0 := below_heap b1 (heap_2b w _ _)
    obtain ⟨d0, d1, d2⟩ := cells3 r0
    have f0 := frozen_row r0
    have HB := Lib.hid (below_trans (below_two w _ _) b1)
    have R0 := Lib.hid r0
    have l1 := lt_of_heap r0
    clear r0 b1
    go_wp2_with fail
    refine ret_tile3 rfl (w.heap.size + 1) 0 0 0 _ _ _ ?_ rfl rfl rfl rfl rfl ⟨rfl, ?_⟩
    · rw [heap_alloc_old _ _ (by simpa using l1)]
      exact set3_heap R0.out
    · exact (((HB.out.setCell (p := ⟨w.heap.size + 1, 0, none⟩) (by simp) _).setCell (p := ⟨w.heap.size + 1, 1, none⟩) (by simp) _).setCell (p := ⟨w.heap.size + 1, 2, none⟩) (by simp) _).alloc (by simp; omega) _

def CountRel (L : Nat) (vn vi : Value) : Prop := ∃ j : Nat, j ≤ L % 8 ∧ vn = .int .u64 ((2 ^ j : Nat) : Int) ∧ vi = .int .u8 j
end Go.Proofs.YtlahdjdbbfjadaaGreatDoor
