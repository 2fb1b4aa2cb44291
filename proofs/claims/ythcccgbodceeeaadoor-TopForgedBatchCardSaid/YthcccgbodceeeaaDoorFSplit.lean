/-
  shape.Split, shape.halves and forge's cut by their contracts.
-/
import Derived.Test.YthcccgbodceeeaaDoorFRes
import Derived.Test.YthcccgbodceeeaaDoorShelf
import Derived.Lib.ItoaNum
namespace Go.Proofs.YthcccgbodceeeaaDoor
open Go.RowKit

theorem bitLen_log (x : Nat) (h0 : x ≠ 0) (h : x < 2 ^ 64) : Lib.bitLen x = x.log2 + 1 := by
  obtain ⟨h1, h2, h3⟩ := Lib.bitLenAux_bounds 64 x h h0
  unfold Lib.bitLen
  have a1 : Lib.bitLenAux 64 x - 1 ≤ x.log2 := (Nat.le_log2 h0).2 h2
  have a2 : x.log2 < Lib.bitLenAux 64 x := (Nat.log2_lt h0).2 h3
  omega
def splitV (n : Nat) : Value := .tuple (if 2 ≤ n then #[.int .u64 (spL n : Int), .bool true] else #[.int .u64 0, .bool false])
theorem spL_le (n : Nat) (h : 2 ≤ n) (h2 : n ≤ 9223372036854775808) : (n - 1).log2 ≤ 62 := by
  have : (n - 1).log2 < 63 := (Nat.log2_lt (by omega)).2 (by omega)
  omega
set_option maxRecDepth 100000 in
theorem split_any (n : Nat) (hn : n ≤ 9223372036854775808) (w : World) :
    Calls Tryd.prog 30 #[.int .u64 (n : Int)] w fun e w' => e = .returned (splitV n) ∧ w = w' := by
  by_cases h : 2 ≤ n
  · have n1 : ¬ (n : Int) < 2 := by omega
    have n2 : ¬ (9223372036854775808 : Int) < (n : Int) := by omega
    have hl := spL_le n h hn
    have hb : Lib.bitLen ((n : Int) - 1).toNat = (n - 1).log2 + 1 := by
      rw [show ((n : Int) - 1).toNat = n - 1 by omega]
      exact bitLen_log _ (by omega) (by omega)
    have hsp : spL n = 2 ^ (n - 1).log2 := rfl
    rw [splitV, if_pos h, hsp]
    generalize (n - 1).log2 = k at *
    go_enter Tryd.func30, Tryd.ntmps30
    go_wp2_with (go_at_call 46; refine (Tryd.bits_Len64 ((n : Int) - 1) _ (by omega) (by omega)).mono ?_; rintro e w' ⟨rfl, rfl⟩; rw [hb])
    go_wp2_with fail
    go_ret2
    refine ⟨?_, rfl⟩
    have hp : (2 : Nat) ^ k ≤ 2 ^ 62 := Nat.pow_le_pow_right (by omega) hl
    have hwk : IntKind.u64.wrap ((2 : Int) ^ k) = ((2 ^ k : Nat) : Int) := by
      rw [IntKind.wrap_u64, show ((2 : Int) ^ k) = ((2 ^ k : Nat) : Int) by push_cast; rfl]
      omega
    rw [← hwk]
    rfl
  · have n1 : (n : Int) < 2 := by omega
    rw [splitV, if_neg h]
    go_enter Tryd.func30, Tryd.ntmps30
    go_wp2_with fail
    go_ret2
    exact ⟨rfl, rfl⟩
/-- The two halves of a stretch, and whether it is more than a leaf. -/
def spanV (b e : Nat) : Value := .agg #[.int .u64 (b : Int), .int .u64 (e : Int)]
theorem spL_mid' {b e : Nat} (h : 2 ≤ e - b) : 0 < spL (e - b) ∧ b + spL (e - b) < e := by
  have := spL_mid (e - b) h
  omega
set_option maxHeartbeats 1000000 in
set_option maxRecDepth 100000 in
theorem halves_any (b e : Nat) (h : 2 ≤ e - b) (he : e ≤ 9223372036854775808) (w : World) :
    Calls Tryd.prog 32 #[spanV b e] w fun x w' => x = .returned (.tuple #[spanV b (b + spL (e - b)), spanV (b + spL (e - b)) e]) ∧ Below w.heap.size w w' := by
  have HS := Lib.hid fun W => split_any (e - b) (by omega) W
  obtain ⟨k1, k2⟩ := spL_mid' h
  rw [splitV, if_pos h, show ((e - b : Nat) : Int) = (e : Int) - (b : Int) by omega] at HS
  generalize hk : spL (e - b) = k at *
  clear hk
  have hw : IntKind.u64.wrap ((b : Int) + (k : Int)) = (b : Int) + (k : Int) := by rw [IntKind.wrap_u64]; omega
  have HK := Lib.hid (show ((b + k : Nat) : Int) = (b : Int) + (k : Int) by push_cast; rfl)
  unfold spanV
  obtain ⟨hA, hB, hC, hsz, hb3⟩ := three_blocks w #[.int .u64 (b : Int), .int .u64 (e : Int)] #[.int .u64 0, .int .u64 0] #[.int .u64 0, .int .u64 0] 65 65 65
  go_enter Tryd.func32, Tryd.ntmps32
  go_upto_region 1 with fail
  generalize ((w.alloc (.cells #[.int .u64 (b : Int), .int .u64 (e : Int)] 65)).alloc (.cells #[.int .u64 0, .int .u64 0] 65)).alloc (.cells #[.int .u64 0, .int .u64 0] 65) = w3 at *
  have c0 : w3.cell? ⟨w.heap.size, 0, none⟩ = some (.int .u64 (b : Int)) := cell_of hA 0 rfl
  have c1 : w3.cell? ⟨w.heap.size, 1, none⟩ = some (.int .u64 (e : Int)) := cell_of hA 1 rfl
  have HR := Lib.hid (rows_two #[.int .u64 (b : Int), .int .u64 ((b : Int) + (k : Int))] #[.int .u64 ((b : Int) + (k : Int)), .int .u64 (e : Int)] hB hC (by omega) hb3 (by omega) (by omega))
  have c2 : w3.cell? ⟨w.heap.size + 1, 0, none⟩ = some (.int .u64 0) := cell_of hB 0 rfl
  have c3 : w3.cell? ⟨w.heap.size + 1, 1, none⟩ = some (.int .u64 0) := cell_of hB 1 rfl
  have c4 : w3.cell? ⟨w.heap.size + 1 + 1, 0, none⟩ = some (.int .u64 0) := cell_of hC 0 rfl
  have c5 : w3.cell? ⟨w.heap.size + 1 + 1, 1, none⟩ = some (.int .u64 0) := cell_of hC 1 rfl
  have f1 := fun j => frozen_row hB j
  have f2 := fun j => frozen_row hC j
  have HX1 := Lib.hid hB
  clear hA hB hC hsz hb3
  go_wp2_with (go_at_call 30; refine (HS.out _).mono ?_; rintro x w' ⟨rfl, rfl⟩)
  go_region
  rw [setCell2 w3 (w.heap.size + 1) _ _ _ _ _ HX1.out, setCell2 _ (w.heap.size + 1 + 1) _ _ _ _ _ HR.out.2.2.2]
  go_wp2_with fail
  refine bodyPost_ret (v := .tuple #[.agg #[.int .u64 (b : Int), .int .u64 ((b : Int) + (k : Int))], .agg #[.int .u64 ((b : Int) + (k : Int)), .int .u64 (e : Int)]]) ?_ rfl ⟨by rw [HK.out], HR.out.2.2.1.drew⟩
  exact results_rows2 rfl _ _ (w.heap.size + 1) (w.heap.size + 1 + 1) 65 65 _ _ (0, 0) (0, 0) _ _ rfl HR.out.1 rfl HR.out.2.1 Tryd.underlying65 rfl spanInfo Tryd.underlying65 rfl spanInfo
/-- What forge's cut says of a stretch. -/
def cutV (b e : Nat) : Value := .tuple (if 2 ≤ e - b then #[spanV b (b + spL (e - b)), spanV (b + spL (e - b)) e, .bool true] else #[spanV b b, spanV b e, .bool false])
set_option maxHeartbeats 1000000 in
set_option maxRecDepth 100000 in
theorem cut_more (b e : Nat) (h : 2 ≤ e - b) (he : e ≤ 9223372036854775808) (w : World) :
    Calls Tryd.prog 33 #[spanV b e] w fun x w' => x = .returned (.tuple #[spanV b (b + spL (e - b)), spanV (b + spL (e - b)) e, .bool true]) ∧ Below w.heap.size w w' := by
  have HS := Lib.hid fun W => split_any (e - b) (by omega) W
  obtain ⟨k1, k2⟩ := spL_mid' h
  rw [splitV, if_pos h, show ((e - b : Nat) : Int) = (e : Int) - (b : Int) by omega] at HS
  generalize hk : spL (e - b) = k at *
  clear hk
  have hw : IntKind.u64.wrap ((b : Int) + (k : Int)) = (b : Int) + (k : Int) := by rw [IntKind.wrap_u64]; omega
  have HK := Lib.hid (show ((b + k : Nat) : Int) = (b : Int) + (k : Int) by push_cast; rfl)
  unfold spanV
  obtain ⟨hA, hB, hC, hsz, hb3⟩ := three_blocks w #[.int .u64 (b : Int), .int .u64 (e : Int)] #[.int .u64 0, .int .u64 0] #[.int .u64 0, .int .u64 0] 65 65 65
  go_enter Tryd.func33, Tryd.ntmps33
  go_upto_region 1 with fail
  generalize ((w.alloc (.cells #[.int .u64 (b : Int), .int .u64 (e : Int)] 65)).alloc (.cells #[.int .u64 0, .int .u64 0] 65)).alloc (.cells #[.int .u64 0, .int .u64 0] 65) = w3 at *
  have c0 : w3.cell? ⟨w.heap.size, 0, none⟩ = some (.int .u64 (b : Int)) := cell_of hA 0 rfl
  have c1 : w3.cell? ⟨w.heap.size, 1, none⟩ = some (.int .u64 (e : Int)) := cell_of hA 1 rfl
  have HR := Lib.hid (rows_two #[.int .u64 (b : Int), .int .u64 ((b : Int) + (k : Int))] #[.int .u64 ((b : Int) + (k : Int)), .int .u64 (e : Int)] hB hC (by omega) hb3 (by omega) (by omega))
  have c2 : w3.cell? ⟨w.heap.size + 1, 0, none⟩ = some (.int .u64 0) := cell_of hB 0 rfl
  have c3 : w3.cell? ⟨w.heap.size + 1, 1, none⟩ = some (.int .u64 0) := cell_of hB 1 rfl
  have c4 : w3.cell? ⟨w.heap.size + 1 + 1, 0, none⟩ = some (.int .u64 0) := cell_of hC 0 rfl
  have c5 : w3.cell? ⟨w.heap.size + 1 + 1, 1, none⟩ = some (.int .u64 0) := cell_of hC 1 rfl
  have f1 := fun j => frozen_row hB j
  have f2 := fun j => frozen_row hC j
  have HX1 := Lib.hid hB
  clear hA hB hC hsz hb3
  go_wp2_with (go_at_call 30; refine (HS.out _).mono ?_; rintro x w' ⟨rfl, rfl⟩)
  go_region
  rw [setCell2 w3 (w.heap.size + 1) _ _ _ _ _ HX1.out, setCell2 _ (w.heap.size + 1 + 1) _ _ _ _ _ HR.out.2.2.2]
  go_wp2_with fail
  refine bodyPost_ret (v := .tuple #[.agg #[.int .u64 (b : Int), .int .u64 ((b : Int) + (k : Int))], .agg #[.int .u64 ((b : Int) + (k : Int)), .int .u64 (e : Int)], .bool true]) ?_ rfl ⟨by rw [HK.out], HR.out.2.2.1.drew⟩
  exact results_rows2_tmp rfl _ _ (w.heap.size + 1) (w.heap.size + 1 + 1) 65 65 _ _ (0, 0) (0, 0) _ _ (.bool true) rfl rfl HR.out.1 rfl HR.out.2.1 Tryd.underlying65 rfl spanInfo Tryd.underlying65 rfl spanInfo
set_option maxHeartbeats 1000000 in
set_option maxRecDepth 100000 in
theorem cut_leaf (b e : Nat) (h : ¬ 2 ≤ e - b) (hb : b ≤ e) (he : e ≤ 9223372036854775808) (w : World) :
    Calls Tryd.prog 33 #[spanV b e] w fun x w' => x = .returned (.tuple #[spanV b b, spanV b e, .bool false]) ∧ Below w.heap.size w w' := by
  have HS := Lib.hid fun W => split_any (e - b) (by omega) W
  have hw : IntKind.u64.wrap (b : Int) = (b : Int) := by rw [IntKind.wrap_u64]; omega
  rw [splitV, if_neg h, show ((e - b : Nat) : Int) = (e : Int) - (b : Int) by omega] at HS
  unfold spanV
  obtain ⟨hA, hB, hC, hsz, hb3⟩ := three_blocks w #[.int .u64 (b : Int), .int .u64 (e : Int)] #[.int .u64 0, .int .u64 0] #[.int .u64 0, .int .u64 0] 65 65 65
  go_enter Tryd.func33, Tryd.ntmps33
  go_upto_region 1 with fail
  generalize ((w.alloc (.cells #[.int .u64 (b : Int), .int .u64 (e : Int)] 65)).alloc (.cells #[.int .u64 0, .int .u64 0] 65)).alloc (.cells #[.int .u64 0, .int .u64 0] 65) = w3 at *
  have c0 : w3.cell? ⟨w.heap.size, 0, none⟩ = some (.int .u64 (b : Int)) := cell_of hA 0 rfl
  have c1 : w3.cell? ⟨w.heap.size, 1, none⟩ = some (.int .u64 (e : Int)) := cell_of hA 1 rfl
  have HR := Lib.hid (rows_two #[.int .u64 (b : Int), .int .u64 (b : Int)] #[.int .u64 (b : Int), .int .u64 (e : Int)] hB hC (by omega) hb3 (by omega) (by omega))
  have c2 : w3.cell? ⟨w.heap.size + 1, 0, none⟩ = some (.int .u64 0) := cell_of hB 0 rfl
  have c3 : w3.cell? ⟨w.heap.size + 1, 1, none⟩ = some (.int .u64 0) := cell_of hB 1 rfl
  have c4 : w3.cell? ⟨w.heap.size + 1 + 1, 0, none⟩ = some (.int .u64 0) := cell_of hC 0 rfl
  have c5 : w3.cell? ⟨w.heap.size + 1 + 1, 1, none⟩ = some (.int .u64 0) := cell_of hC 1 rfl
  have f1 := fun j => frozen_row hB j
  have f2 := fun j => frozen_row hC j
  have HX1 := Lib.hid hB
  clear hA hB hC hsz hb3
  go_wp2_with (go_at_call 30; refine (HS.out _).mono ?_; rintro x w' ⟨rfl, rfl⟩)
  go_region
  rw [setCell2 w3 (w.heap.size + 1) _ _ _ _ _ HX1.out, setCell2 _ (w.heap.size + 1 + 1) _ _ _ _ _ HR.out.2.2.2]
  go_wp2_with fail
  refine bodyPost_ret (v := .tuple #[.agg #[.int .u64 (b : Int), .int .u64 (b : Int)], .agg #[.int .u64 (b : Int), .int .u64 (e : Int)], .bool false]) ?_ rfl ⟨rfl, HR.out.2.2.1.drew⟩
  exact results_rows2_tmp rfl _ _ (w.heap.size + 1) (w.heap.size + 1 + 1) 65 65 _ _ (0, 0) (0, 0) _ _ (.bool false) rfl rfl HR.out.1 rfl HR.out.2.1 Tryd.underlying65 rfl spanInfo Tryd.underlying65 rfl spanInfo
theorem cut_any (b e : Nat) (hb : b ≤ e) (he : e ≤ 9223372036854775808) (w : World) :
    Calls Tryd.prog 33 #[spanV b e] w fun x w' => x = .returned (cutV b e) ∧ Below w.heap.size w w' := by
  unfold cutV
  by_cases h : 2 ≤ e - b
  · rw [if_pos h]
    exact cut_more b e h he w
  · rw [if_neg h]
    exact cut_leaf b e h hb he w
end Go.Proofs.YthcccgbodceeeaaDoor
