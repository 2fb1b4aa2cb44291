/-
  Layer 11: Span, may (a tile), In, Of: the program's functions and the reference's, by contracts.
-/
import Derived.Test.YtlahdjdbbfjadaaGreatDoorTileMay
import Derived.IntWalk

namespace Go.Proofs.YtlahdjdbbfjadaaGreatDoor
open Go.RowKit

set_option maxHeartbeats 1000000 in
set_option maxRecDepth 100000 in
theorem span_any (L I : Nat) (hL : L ≤ 255) (hI : I ≤ 18446744073709551615) (w : World) :
    Calls Tryz.prog 125 #[.agg #[.int .u8 L, .int .u64 I]] w fun e w' => e = .returned (.tuple (if WholeP L I then #[.agg #[.int .u64 ((I * 2 ^ L : Nat) : Int), .int .u64 (((I + 1) * 2 ^ L : Nat) : Int)], .bool true] else #[.agg #[.int .u64 0, .int .u64 0], .bool false])) ∧ Below w.heap.size w w' := by
  have HM := Lib.hid fun W => coordMay_any L I hL hI W
  by_cases h : WholeP L I
  · rw [if_pos h]
    rw [decide_eq_true h] at HM
    have hle : I * 2 ^ L ≤ (I + 1) * 2 ^ L := Nat.mul_le_mul_right _ (by omega)
    have hp : 1 ≤ 2 ^ L := Nat.one_le_two_pow
    have hII := Nat.mul_le_mul_left (I + 1) hp
    have hw := h.2
    have HX := Lib.hid (show IntKind.u64.wrap ((I : Int) * 2 ^ L) = ((I * 2 ^ L : Nat) : Int) by
      rw [IntKind.wrap_u64, Int.natCast_mul, Int.natCast_pow]
      have : ((I : Int) * (2 : Int) ^ L) = ((I * 2 ^ L : Nat) : Int) := by rw [Int.natCast_mul, Int.natCast_pow]; rfl
      rw [show (((2 : Nat) : Int)) = 2 from rfl, this]
      omega)
    have HY := Lib.hid (show IntKind.u64.wrap (((I : Int) + 1) * 2 ^ L) = (((I + 1) * 2 ^ L : Nat) : Int) by
      have : (((I : Int) + 1) * (2 : Int) ^ L) = (((I + 1) * 2 ^ L : Nat) : Int) := by rw [Int.natCast_mul, Int.natCast_pow]; rfl
      rw [IntKind.wrap_u64, this]
      omega)
    have HI1 := Lib.hid (show IntKind.u64.wrap ((I : Int) + 1) = (I : Int) + 1 by rw [IntKind.wrap_u64]; omega)
    have h63 := h.1
    clear hle hp hII hw
    go_enter Tryz.func125, Tryz.ntmps125
    go_wp2_with fail
    refine (HM.out _).mono ?_
    rintro e w1 ⟨rfl, b1⟩
    have h0 := below_heap b1 (heap_2a w _ _)
    have c0 := cell_of h0 0 (v := .int .u8 (L : Int)) rfl
    have c1 := cell_of h0 1 (v := .int .u64 (I : Int)) rfl
    have r0 := below_heap b1 (heap_2b w _ _)
    have d0 := cell_of r0 0 (v := .int .u64 0) rfl
    have d1 := cell_of r0 1 (v := .int .u64 0) rfl
    have f0 := frozen_row r0
    have HB := Lib.hid (below_trans (below_two w _ _) b1)
    have R0 := Lib.hid r0
    clear h0 r0 b1
    go_wp2_with fail
    refine ret_span rfl (w.heap.size + 1) _ _ _ (set2_heap R0.out) rfl rfl rfl ⟨?_, (HB.out.setCell (p := ⟨w.heap.size + 1, 0, none⟩) (by simp) _).setCell (p := ⟨w.heap.size + 1, 1, none⟩) (by simp) _⟩
    rw [HI1.out, HX.out, HY.out]
    rfl
  · rw [if_neg h]
    rw [decide_eq_false h] at HM
    go_enter Tryz.func125, Tryz.ntmps125
    go_wp2_with fail
    refine (HM.out _).mono ?_
    rintro e w1 ⟨rfl, b1⟩
    have r0 := below_heap b1 (heap_2b w _ _)
    have d0 := cell_of r0 0 (v := .int .u64 0) rfl
    have d1 := cell_of r0 1 (v := .int .u64 0) rfl
    have f0 := frozen_row r0
    have HB := Lib.hid (below_trans (below_two w _ _) b1)
    have R0 := Lib.hid r0
    clear r0 b1
    go_wp2_with fail
    exact ret_span rfl (w.heap.size + 1) _ _ _ (set2_heap R0.out) rfl rfl rfl ⟨rfl, (HB.out.setCell (p := ⟨w.heap.size + 1, 0, none⟩) (by simp) _).setCell (p := ⟨w.heap.size + 1, 1, none⟩) (by simp) _⟩

/-- Is a tile in a log? -/
def InP (L I Z : Nat) : Prop := L ≤ 7 ∧ Z ≤ 9223372036854775808 ∧ I * 256 < Z / 2 ^ (8 * L)
instance (L I Z : Nat) : Decidable (InP L I Z) := inferInstanceAs (Decidable (_ ∧ _))
def inW (L I Z : Nat) : Nat := min (Z / 2 ^ (8 * L) - I * 256) 256
def inV (L I Z : Nat) : Value := .tuple (if InP L I Z then #[.agg (tileV L I (inW L I Z)), .bool true] else #[.agg (tileV 0 0 0), .bool false])
theorem shr_cast (Z k : Nat) : ((Z : Int) / 2 ^ k) = ((Z / 2 ^ k : Nat) : Int) := by rw [Int.natCast_ediv, Int.natCast_pow]; rfl
theorem min_cast (a b : Int) (x y : Nat) (h1 : a = x) (h2 : b = y) : min a b = ((min x y : Nat) : Int) := by subst h1; subst h2; omega
set_option maxHeartbeats 1000000 in
set_option maxRecDepth 100000 in
theorem in_any (L I Z : Nat) (hL : L ≤ 255) (hI : I ≤ 18446744073709551615) (hZ : Z ≤ 18446744073709551615) (w : World) :
    Calls Tryz.prog 86 #[.int .u8 L, .int .u64 I, .int .u64 Z] w fun e w' => e = .returned (inV L I Z) ∧ Below w.heap.size w w' := by
  have hR := Lib.hid (below_one w (.cells (tileV 0 0 0) 93))
  by_cases h1 : L ≤ 7
  · by_cases h2 : Z ≤ 9223372036854775808
    · have h1' : ¬ (7 : Int) < L := by omega
      have h2' : ¬ (9223372036854775808 : Int) < Z := by omega
      have hd : Z / 2 ^ (8 * L) ≤ Z := Nat.div_le_self _ _
      have hsc := shr_cast Z (8 * L)
      have hInP : InP L I Z ↔ I * 256 < Z / 2 ^ (8 * L) := ⟨fun h => h.2.2, fun h => ⟨h1, h2, h⟩⟩
      have hinW : inW L I Z = min (Z / 2 ^ (8 * L) - I * 256) 256 := rfl
      generalize Z / 2 ^ (8 * L) = n at hd hsc hInP hinW
      have hw1 : IntKind.u64.wrap (((Z : Int) / 2 ^ (8 * L)).tdiv 256) = ((n / 256 : Nat) : Int) := by
        rw [hsc, Int.tdiv_eq_ediv_of_nonneg (by omega), IntKind.wrap_u64]; omega
      by_cases h3 : I ≤ n / 256
      · have hw2 : IntKind.u64.wrap ((I : Int) * 256) = ((I * 256 : Nat) : Int) := by rw [IntKind.wrap_u64]; omega
        have g1 : (I : Int) ≤ IntKind.u64.wrap (((Z : Int) / 2 ^ (8 * L)).tdiv 256) := by rw [hw1]; omega
        by_cases h4 : I * 256 < n
        · have g2 : IntKind.u64.wrap ((I : Int) * 256) < (Z : Int) / 2 ^ (8 * L) := by rw [hw2, hsc]; omega
          have HIN : InP L I Z := hInP.2 h4
          have e : IntKind.u64.wrap ((n : Int) - ((I * 256 : Nat) : Int)) = ((n - I * 256 : Nat) : Int) := by rw [IntKind.wrap_u64]; omega
          have HW : wrap64 (min (IntKind.u64.wrap ((Z : Int) / 2 ^ (8 * L) - IntKind.u64.wrap ((I : Int) * 256))) 256) = ((inW L I Z : Nat) : Int) := by
            rw [hw2, hsc, e, hinW, IntWalk.wrap64_in _ (by omega)]
            omega
          have HIN := Lib.hid HIN
          have HW := Lib.hid HW
          clear e
          clear hd hw1 hw2 h3 h4 hsc hInP hinW
          go_enter Tryz.func86, Tryz.ntmps86
          go_wp2_with fail
          refine ret_tile rfl w.heap.size _ _ _ _ (heap_one w _) rfl rfl rfl ⟨?_, below_one _ _⟩
          rw [inV, if_pos HIN.out, ← HW.out]
          rfl
        · have g2 : (Z : Int) / 2 ^ (8 * L) ≤ IntKind.u64.wrap ((I : Int) * 256) := by rw [hw2, hsc]; omega
          have HIN : ¬ InP L I Z := fun h => h4 (hInP.1 h)
          have HIN := Lib.hid HIN
          clear hd hw1 hw2 h3 h4 hsc hInP hinW
          go_enter Tryz.func86, Tryz.ntmps86
          go_wp2_with fail
          refine ret_tile rfl w.heap.size _ _ _ _ (heap_one w _) rfl rfl rfl ⟨?_, below_one _ _⟩
          rw [inV, if_neg HIN.out]
          rfl
      · have g1 : IntKind.u64.wrap (((Z : Int) / 2 ^ (8 * L)).tdiv 256) < (I : Int) := by rw [hw1]; omega
        have HIN : ¬ InP L I Z := fun h => by have := hInP.1 h; omega
        have HIN := Lib.hid HIN
        clear hd hw1 h3 hsc hInP hinW
        go_enter Tryz.func86, Tryz.ntmps86
        go_wp2_with fail
        refine ret_tile rfl w.heap.size _ _ _ _ (heap_one w _) rfl rfl rfl ⟨?_, below_one _ _⟩
        rw [inV, if_neg HIN.out]
        rfl
    · have h1' : ¬ (7 : Int) < L := by omega
      have h2' : (9223372036854775808 : Int) < Z := by omega
      go_enter Tryz.func86, Tryz.ntmps86
      go_wp2_with fail
      refine ret_tile rfl w.heap.size _ _ _ _ (heap_one w _) rfl rfl rfl ⟨?_, below_one _ _⟩
      rw [inV, if_neg (fun h => h2 h.2.1)]
      rfl
  · have h1' : (7 : Int) < L := by omega
    go_enter Tryz.func86, Tryz.ntmps86
    go_wp2_with fail
    refine ret_tile rfl w.heap.size _ _ _ _ (heap_one w _) rfl rfl rfl ⟨?_, below_one _ _⟩
    rw [inV, if_neg (fun h => h1 h.1)]
    rfl

end Go.Proofs.YtlahdjdbbfjadaaGreatDoor
