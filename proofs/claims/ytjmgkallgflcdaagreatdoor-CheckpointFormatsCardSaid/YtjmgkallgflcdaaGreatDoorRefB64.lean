/-
  cartularyref03: Base64 by its contract (printed by wip/genrefb64.py).
-/
import Derived.Test.YtjmgkallgflcdaaGreatDoorRefF64
namespace Go.Proofs.YtjmgkallgflcdaaGreatDoor
open Go.RowKit

theorem b64_3 (a b c : UInt8) (r : List UInt8) : b64 (a :: b :: c :: r) = [L64 (n3 a b c / 262144), L64 (n3 a b c / 4096 % 64)] ++ [L64 (n3 a b c / 64 % 64)] ++ [L64 (n3 a b c % 64)] ++ b64 r := by
  have h := n3_lt a b c
  have e : b64 (a :: b :: c :: r) = L64 (n3 a b c / 262144 % 64) :: L64 (n3 a b c / 4096 % 64) :: L64 (n3 a b c / 64 % 64) :: L64 (n3 a b c % 64) :: b64 r := rfl
  rw [e, show n3 a b c / 262144 % 64 = n3 a b c / 262144 by omega]
  rfl
theorem b64_2 (a b : UInt8) : b64 [a, b] = [L64 (n3 a b 0 / 262144), L64 (n3 a b 0 / 4096 % 64)] ++ [L64 (n3 a b 0 / 64 % 64)] ++ [61] := by
  have ha := UInt8.toNat_lt a
  have hb := UInt8.toNat_lt b
  have h0 : (0 : UInt8).toNat = 0 := rfl
  unfold b64 n3
  rw [h0, show (a.toNat * 65536 + b.toNat * 256 + 0) / 262144 = a.toNat / 4 by omega, show (a.toNat * 65536 + b.toNat * 256 + 0) / 4096 % 64 = a.toNat % 4 * 16 + b.toNat / 16 by omega, show (a.toNat * 65536 + b.toNat * 256 + 0) / 64 % 64 = b.toNat % 16 * 4 by omega]
  rfl
theorem b64_1 (a : UInt8) : b64 [a] = [L64 (n3 a 0 0 / 262144), L64 (n3 a 0 0 / 4096 % 64)] ++ [61] ++ [61] := by
  have ha := UInt8.toNat_lt a
  have h0 : (0 : UInt8).toNat = 0 := rfl
  unfold b64 n3
  rw [h0, show (a.toNat * 65536 + 0 * 256 + 0) / 262144 = a.toNat / 4 by omega, show (a.toNat * 65536 + 0 * 256 + 0) / 4096 % 64 = a.toNat % 4 * 16 by omega]
  rfl
theorem news_at (W : World) (H : Nat) (hW : W.heap.size = H) (l : List UInt8) : ∀ j u, (Lib.byteCells l)[j]? = some u → (W.alloc (.cells (Lib.byteCells l).toArray 5)).cell? ((⟨H, 0, none⟩ : Addr).add j) = some u := fun j u hj => by
  rw [← hW]
  exact (heap_news W _ l j).trans hj
def RB64Rel (s : ByteArray) (w : World) (vo vi : Value) (wr : World) : Prop :=
  ∃ (k : Nat) (out : List UInt8), k ≤ s.size + 2 ∧ vi = .int .i64 k ∧ wr.ownsRow w.heap.size 5 1 vo out.length (Lib.byteCells out) ∧ Below w.heap.size w wr ∧ out ++ b64 (s.data.toList.drop k) = b64 s.data.toList

set_option maxHeartbeats 4000000 in
set_option maxRecDepth 100000 in
theorem refBase64_any (s : ByteArray) (w : World) (hs : (s.size + 2) / 3 * 4 ≤ 140737488355328) :
    Calls Tryz.prog 34 #[.string s] w fun e w' => e = .returned (.string ⟨(b64 s.data.toList).toArray⟩) ∧ Below w.heap.size w w' := by
  have HS := Lib.hid (size_list s)
  have HBL := Lib.hid (b64_length s.data.toList)
  obtain ⟨i0, hi, hz0, hz1, hz2⟩ := info_parts Tryz.infoByte
  go_enter Tryz.func34, Tryz.ntmps34
  go_wp2_with fail
  go_loopw [3, 4] (fun vo vi wr => RB64Rel s w vo vi wr) (fun _ vi _ => s.size - (intOf vi).toNat)
  case atStart => exact ⟨0, [], by omega, rfl, World.ownsRow_nil _ _ _ _, Below.refl _ _, rfl⟩
  case round =>
    obtain ⟨k, out, hk, rfl, hown, hbel, hacc⟩ := hrel
    have HACC := Lib.hid hacc
    clear hacc
    have hwsz := hbel.size
    by_cases hlt : k < s.size
    · have hlen : (s.data.toList.drop k).length = s.size - k := by rw [List.length_drop, HS.out]
      have hget : ∀ j, (s.data.toList.drop k)[j]? = s.data.toList[k + j]? := fun j => by rw [List.getElem?_drop]
      have hol : out.length + (b64 (s.data.toList.drop k)).length = (s.size + 2) / 3 * 4 := by
        rw [← List.length_append, HACC.out, HBL.out, HS.out]
      have hacc := HACC.out
      have hdd : s.data.toList.drop (k + 3) = (s.data.toList.drop k).drop 3 := by rw [List.drop_drop]
      have ek1 : IntKind.i64.wrap ((k : Int) + 1) = (k : Int) + 1 := by rw [IntKind.wrap_i64]; omega
      match hl : s.data.toList.drop k with
      | [] => rw [hl] at hlen; simp at hlen; omega
      | a :: b :: c :: r =>
        rw [hl] at hlen hget hacc hol hdd
        rw [b64_length] at hol
        simp only [List.length_cons] at hlen hol
        have ho4 : out.length + 4 ≤ 140737488355328 := by omega
        have l1 : k + 2 < s.size := by omega
        
        clear hlen hol
        have xa := fun w => run_idx (P := Tryz.prog) Tryz.underlying9 s k a (hget 0).symm ((k : Int)) rfl .i64 w
        have a256 := UInt8.toNat_lt a
        have xb := fun w => run_idx (P := Tryz.prog) Tryz.underlying9 s (k + 1) b (hget 1).symm ((k : Int) + 1) (by omega) .i64 w
        have b256 := UInt8.toNat_lt b
        have xc := fun w => run_idx (P := Tryz.prog) Tryz.underlying9 s (k + 2) c (hget 2).symm ((k : Int) + 1 + 1) (by omega) .i64 w
        have c256 := UInt8.toNat_lt c
        rw [b64_3] at hacc
        have hN := n3_lt a b c
        have hX : ((a.toNat : Int) * 256 + (b.toNat : Int)) * 256 + (c.toNat : Int) = ((n3 a b c : Nat) : Int) := by unfold n3; omega
        generalize n3 a b c = N at *
        have HF := Lib.hid hacc
        have d0 := fun w => idx_let w (N / 262144) (by omega) ((N : Int) / 262144) (by omega) .i64
        have d1 := fun w => idx_let w (N / 4096 % 64) (by omega) ((N : Int) / 4096 % 64) (by omega) .i64
        have d2 := fun w => idx_let w (N / 64 % 64) (by omega) ((N : Int) / 64 % 64) (by omega) .i64
        have d3 := fun w => idx_let w (N % 64) (by omega) ((N : Int) % 64) (by omega) .i64
        have e1 : ((N : Int) / 4096).tmod 64 = (N : Int) / 4096 % 64 := Int.tmod_eq_emod_of_nonneg (by omega)
        have e2 : ((N : Int) / 64).tmod 64 = (N : Int) / 64 % 64 := Int.tmod_eq_emod_of_nonneg (by omega)
        have e3 : (N : Int).tmod 64 = (N : Int) % 64 := Int.tmod_eq_emod_of_nonneg (by omega)
        have f0 : IntKind.i64.wrap ((N : Int) / 262144) = (N : Int) / 262144 := by rw [IntKind.wrap_i64]; omega
        have f1 : IntKind.i64.wrap ((N : Int) / 4096) = (N : Int) / 4096 := by rw [IntKind.wrap_i64]; omega
        have HDD := Lib.hid hdd
        have hone := byteCells_one [L64 (N / 262144), L64 (N / 4096 % 64)]
        have hnw : ∀ (W : World), W.heap = wr.heap → ∀ j u, (Lib.byteCells [L64 (N / 262144), L64 (N / 4096 % 64)])[j]? = some u → (W.alloc (.cells #[.int .u8 ((L64 (N / 262144)).toNat : Int), .int .u8 ((L64 (N / 4096 % 64)).toNat : Int)] 5)).cell? ((⟨wr.heap.size, 0, none⟩ : Addr).add j) = some u := fun W hW => news_at W _ (by rw [hW]) _
        clear hl hget hacc hdd hN
        go_wp2_with fail
        refine wp_loop_rounds 4 ?_
        rw [rounds_succ]
        go_wp2_with fail
        rw [rounds_succ]
        go_wp2_with fail
        rw [rounds_succ]
        go_wp2_with fail
        rw [rounds_succ]
        go_wp2_with fail
        go_region_law (first | (refine step_append_lies _ (by rfl) (.tmp 32) (.tmp 40) 77 (by rfl) w.heap.size 5 i0 (.int .u8 0) 1 1 Tryz.underlying77 hi hz0 hz1 hz2 rfl (by decide) _ _ _ (by rfl) (by exact hown.alloc _) ⟨wr.heap.size, 0, none⟩ 2 2 (Lib.byteCells [L64 (N / 262144), L64 (N / 4096 % 64)]) (by rfl) (by rfl) (by exact hnw _ rfl) hone (by omega) (by unfold maxLen; omega) (by omega) (by simp; omega) _ rfl ?_; intro g cap w1 hown' hgrow _ _))
        all_goals
          have hbel1 : Below w.heap.size w w1 := ((below_drewN hbel 1).alloc hbel.size _).grown hgrow (by have := hbel.size; simp; omega) (fun j hj => (hown.lt j hj).1)
          rw [cells_app] at hown'
          have hown1 : w1.ownsRow w.heap.size 5 1 (.slice (some ⟨g, 0, none⟩) (out.length + 2) cap) (out ++ [L64 (N / 262144), L64 (N / 4096 % 64)]).length (Lib.byteCells (out ++ [L64 (N / 262144), L64 (N / 4096 % 64)])) := by rw [List.length_append]; exact hown'
          have hz1' := hbel1.size
          clear hown hgrow hbel hown' hnw hone
          go_wp2_with (at_builtin; refine wpList_append_own _ rfl _ _ 77 rfl w.heap.size 5 i0 (.int .u8 0) 1 1 Tryz.underlying77 hi hz0 hz1 hz2 rfl (by decide) _ _ _ rfl (hown1.alloc _) ⟨w1.heap.size, 0, none⟩ 1 1 (Lib.byteCells [L64 (N / 64 % 64)]) rfl rfl (by exact news_at w1 _ rfl _) (byteCells_one [L64 (N / 64 % 64)]) (by simp only [List.length_append, List.length_cons, List.length_nil]; unfold maxLen; omega) (by simp only [List.length_append, List.length_cons, List.length_nil]; omega) (by simp; omega) ?_)
          intro v2 w2 hown2' hgrow2 _
          have hbel2 : Below w.heap.size w w2 := (hbel1.alloc hbel1.size _).grown hgrow2 (by simp; omega) (fun j hj => (hown1.lt j hj).1)
          rw [cells_app] at hown2'
          have hown2 : w2.ownsRow w.heap.size 5 1 v2 (out ++ [L64 (N / 262144), L64 (N / 4096 % 64)] ++ [L64 (N / 64 % 64)]).length (Lib.byteCells (out ++ [L64 (N / 262144), L64 (N / 4096 % 64)] ++ [L64 (N / 64 % 64)])) := by simpa using hown2'
          have hz2' := hbel2.size
          clear hown1 hgrow2 hbel1 hown2'
          go_wp2_with (at_builtin; refine wpList_append_own _ rfl _ _ 77 rfl w.heap.size 5 i0 (.int .u8 0) 1 1 Tryz.underlying77 hi hz0 hz1 hz2 rfl (by decide) _ _ _ rfl (hown2.alloc _) ⟨w2.heap.size, 0, none⟩ 1 1 (Lib.byteCells [L64 (N % 64)]) rfl rfl (by exact news_at w2 _ rfl _) (byteCells_one [L64 (N % 64)]) (by simp only [List.length_append, List.length_cons, List.length_nil]; unfold maxLen; omega) (by simp only [List.length_append, List.length_cons, List.length_nil]; omega) (by simp; omega) ?_)
          intro v3 w3 hown3' hgrow3 _
          have hbel3 : Below w.heap.size w w3 := (hbel2.alloc hbel2.size _).grown hgrow3 (by simp; omega) (fun j hj => (hown2.lt j hj).1)
          rw [cells_app] at hown3'
          have hown3 : w3.ownsRow w.heap.size 5 1 v3 (out ++ [L64 (N / 262144), L64 (N / 4096 % 64)] ++ [L64 (N / 64 % 64)] ++ [L64 (N % 64)]).length (Lib.byteCells (out ++ [L64 (N / 262144), L64 (N / 4096 % 64)] ++ [L64 (N / 64 % 64)] ++ [L64 (N % 64)])) := by simpa using hown3'
          have hz3' := hbel3.size
          clear hown2 hgrow3 hbel2 hown3'
          go_wp2_with fail
          go_roundw
          case rel => exact ⟨k + 3, _, by omega, by go_num, hown3, hbel3, by rw [HDD.out]; rw [← HF.out]; simp⟩
          case measure => simp [intOf]; omega
      | [a, b] =>
        rw [hl] at hlen hget hacc hol hdd
        rw [b64_length] at hol
        simp only [List.length_cons, List.length_nil] at hlen hol
        have ho4 : out.length + 4 ≤ 140737488355328 := by omega
        have l1 : k + 1 < s.size := by omega
        have l2 : s.size ≤ k + 2 := by omega
        clear hlen hol
        have xa := fun w => run_idx (P := Tryz.prog) Tryz.underlying9 s k a (hget 0).symm ((k : Int)) rfl .i64 w
        have a256 := UInt8.toNat_lt a
        have xb := fun w => run_idx (P := Tryz.prog) Tryz.underlying9 s (k + 1) b (hget 1).symm ((k : Int) + 1) (by omega) .i64 w
        have b256 := UInt8.toNat_lt b
        rw [b64_2] at hacc
        have hN := n3_lt a b 0
        have hX : ((a.toNat : Int) * 256 + (b.toNat : Int)) * 256 = ((n3 a b 0 : Nat) : Int) := by unfold n3; simp; omega
        generalize n3 a b 0 = N at *
        have HF := Lib.hid hacc
        have d0 := fun w => idx_let w (N / 262144) (by omega) ((N : Int) / 262144) (by omega) .i64
        have d1 := fun w => idx_let w (N / 4096 % 64) (by omega) ((N : Int) / 4096 % 64) (by omega) .i64
        have d2 := fun w => idx_let w (N / 64 % 64) (by omega) ((N : Int) / 64 % 64) (by omega) .i64
        have d3 := fun w => idx_let w (N % 64) (by omega) ((N : Int) % 64) (by omega) .i64
        have e1 : ((N : Int) / 4096).tmod 64 = (N : Int) / 4096 % 64 := Int.tmod_eq_emod_of_nonneg (by omega)
        have e2 : ((N : Int) / 64).tmod 64 = (N : Int) / 64 % 64 := Int.tmod_eq_emod_of_nonneg (by omega)
        have e3 : (N : Int).tmod 64 = (N : Int) % 64 := Int.tmod_eq_emod_of_nonneg (by omega)
        have f0 : IntKind.i64.wrap ((N : Int) / 262144) = (N : Int) / 262144 := by rw [IntKind.wrap_i64]; omega
        have f1 : IntKind.i64.wrap ((N : Int) / 4096) = (N : Int) / 4096 := by rw [IntKind.wrap_i64]; omega
        have HDD := Lib.hid hdd
        have hone := byteCells_one [L64 (N / 262144), L64 (N / 4096 % 64)]
        have hnw : ∀ (W : World), W.heap = wr.heap → ∀ j u, (Lib.byteCells [L64 (N / 262144), L64 (N / 4096 % 64)])[j]? = some u → (W.alloc (.cells #[.int .u8 ((L64 (N / 262144)).toNat : Int), .int .u8 ((L64 (N / 4096 % 64)).toNat : Int)] 5)).cell? ((⟨wr.heap.size, 0, none⟩ : Addr).add j) = some u := fun W hW => news_at W _ (by rw [hW]) _
        clear hl hget hacc hdd hN
        go_wp2_with fail
        refine wp_loop_rounds 4 ?_
        rw [rounds_succ]
        go_wp2_with fail
        rw [rounds_succ]
        go_wp2_with fail
        rw [rounds_succ]
        go_wp2_with fail
        rw [rounds_succ]
        go_wp2_with fail
        go_region_law (first | (refine step_append_lies _ (by rfl) (.tmp 32) (.tmp 40) 77 (by rfl) w.heap.size 5 i0 (.int .u8 0) 1 1 Tryz.underlying77 hi hz0 hz1 hz2 rfl (by decide) _ _ _ (by rfl) (by exact hown.alloc _) ⟨wr.heap.size, 0, none⟩ 2 2 (Lib.byteCells [L64 (N / 262144), L64 (N / 4096 % 64)]) (by rfl) (by rfl) (by exact hnw _ rfl) hone (by omega) (by unfold maxLen; omega) (by omega) (by simp; omega) _ rfl ?_; intro g cap w1 hown' hgrow _ _))
        all_goals
          have hbel1 : Below w.heap.size w w1 := ((below_drewN hbel 1).alloc hbel.size _).grown hgrow (by have := hbel.size; simp; omega) (fun j hj => (hown.lt j hj).1)
          rw [cells_app] at hown'
          have hown1 : w1.ownsRow w.heap.size 5 1 (.slice (some ⟨g, 0, none⟩) (out.length + 2) cap) (out ++ [L64 (N / 262144), L64 (N / 4096 % 64)]).length (Lib.byteCells (out ++ [L64 (N / 262144), L64 (N / 4096 % 64)])) := by rw [List.length_append]; exact hown'
          have hz1' := hbel1.size
          clear hown hgrow hbel hown' hnw hone
          go_wp2_with (at_builtin; refine wpList_append_own _ rfl _ _ 77 rfl w.heap.size 5 i0 (.int .u8 0) 1 1 Tryz.underlying77 hi hz0 hz1 hz2 rfl (by decide) _ _ _ rfl (hown1.alloc _) ⟨w1.heap.size, 0, none⟩ 1 1 (Lib.byteCells [L64 (N / 64 % 64)]) rfl rfl (by exact news_at w1 _ rfl _) (byteCells_one [L64 (N / 64 % 64)]) (by simp only [List.length_append, List.length_cons, List.length_nil]; unfold maxLen; omega) (by simp only [List.length_append, List.length_cons, List.length_nil]; omega) (by simp; omega) ?_)
          intro v2 w2 hown2' hgrow2 _
          have hbel2 : Below w.heap.size w w2 := (hbel1.alloc hbel1.size _).grown hgrow2 (by simp; omega) (fun j hj => (hown1.lt j hj).1)
          rw [cells_app] at hown2'
          have hown2 : w2.ownsRow w.heap.size 5 1 v2 (out ++ [L64 (N / 262144), L64 (N / 4096 % 64)] ++ [L64 (N / 64 % 64)]).length (Lib.byteCells (out ++ [L64 (N / 262144), L64 (N / 4096 % 64)] ++ [L64 (N / 64 % 64)])) := by simpa using hown2'
          have hz2' := hbel2.size
          clear hown1 hgrow2 hbel1 hown2'
          go_wp2_with (at_builtin; refine wpList_append_own _ rfl _ _ 77 rfl w.heap.size 5 i0 (.int .u8 0) 1 1 Tryz.underlying77 hi hz0 hz1 hz2 rfl (by decide) _ _ _ rfl (hown2.alloc _) ⟨w2.heap.size, 0, none⟩ 1 1 (Lib.byteCells [61]) rfl rfl (by exact news_at w2 _ rfl _) (byteCells_one [61]) (by simp only [List.length_append, List.length_cons, List.length_nil]; unfold maxLen; omega) (by simp only [List.length_append, List.length_cons, List.length_nil]; omega) (by simp; omega) ?_)
          intro v3 w3 hown3' hgrow3 _
          have hbel3 : Below w.heap.size w w3 := (hbel2.alloc hbel2.size _).grown hgrow3 (by simp; omega) (fun j hj => (hown2.lt j hj).1)
          rw [cells_app] at hown3'
          have hown3 : w3.ownsRow w.heap.size 5 1 v3 (out ++ [L64 (N / 262144), L64 (N / 4096 % 64)] ++ [L64 (N / 64 % 64)] ++ [61]).length (Lib.byteCells (out ++ [L64 (N / 262144), L64 (N / 4096 % 64)] ++ [L64 (N / 64 % 64)] ++ [61])) := by simpa using hown3'
          have hz3' := hbel3.size
          clear hown2 hgrow3 hbel2 hown3'
          go_wp2_with fail
          go_roundw
          case rel => exact ⟨k + 3, _, by omega, by go_num, hown3, hbel3, by rw [HDD.out]; rw [← HF.out]; simp [b64]⟩
          case measure => simp [intOf]; omega
      | [a] =>
        rw [hl] at hlen hget hacc hol hdd
        rw [b64_length] at hol
        simp only [List.length_cons, List.length_nil] at hlen hol
        have ho4 : out.length + 4 ≤ 140737488355328 := by omega
        have l1 : k + 0 < s.size := by omega
        have l2 : s.size ≤ k + 1 := by omega
        clear hlen hol
        have xa := fun w => run_idx (P := Tryz.prog) Tryz.underlying9 s k a (hget 0).symm ((k : Int)) rfl .i64 w
        have a256 := UInt8.toNat_lt a
        rw [b64_1] at hacc
        have hN := n3_lt a 0 0
        have hX : (a.toNat : Int) * 256 * 256 = ((n3 a 0 0 : Nat) : Int) := by unfold n3; simp; omega
        generalize n3 a 0 0 = N at *
        have HF := Lib.hid hacc
        have d0 := fun w => idx_let w (N / 262144) (by omega) ((N : Int) / 262144) (by omega) .i64
        have d1 := fun w => idx_let w (N / 4096 % 64) (by omega) ((N : Int) / 4096 % 64) (by omega) .i64
        have d2 := fun w => idx_let w (N / 64 % 64) (by omega) ((N : Int) / 64 % 64) (by omega) .i64
        have d3 := fun w => idx_let w (N % 64) (by omega) ((N : Int) % 64) (by omega) .i64
        have e1 : ((N : Int) / 4096).tmod 64 = (N : Int) / 4096 % 64 := Int.tmod_eq_emod_of_nonneg (by omega)
        have e2 : ((N : Int) / 64).tmod 64 = (N : Int) / 64 % 64 := Int.tmod_eq_emod_of_nonneg (by omega)
        have e3 : (N : Int).tmod 64 = (N : Int) % 64 := Int.tmod_eq_emod_of_nonneg (by omega)
        have f0 : IntKind.i64.wrap ((N : Int) / 262144) = (N : Int) / 262144 := by rw [IntKind.wrap_i64]; omega
        have f1 : IntKind.i64.wrap ((N : Int) / 4096) = (N : Int) / 4096 := by rw [IntKind.wrap_i64]; omega
        have HDD := Lib.hid hdd
        have hone := byteCells_one [L64 (N / 262144), L64 (N / 4096 % 64)]
        have hnw : ∀ (W : World), W.heap = wr.heap → ∀ j u, (Lib.byteCells [L64 (N / 262144), L64 (N / 4096 % 64)])[j]? = some u → (W.alloc (.cells #[.int .u8 ((L64 (N / 262144)).toNat : Int), .int .u8 ((L64 (N / 4096 % 64)).toNat : Int)] 5)).cell? ((⟨wr.heap.size, 0, none⟩ : Addr).add j) = some u := fun W hW => news_at W _ (by rw [hW]) _
        clear hl hget hacc hdd hN
        go_wp2_with fail
        refine wp_loop_rounds 4 ?_
        rw [rounds_succ]
        go_wp2_with fail
        rw [rounds_succ]
        go_wp2_with fail
        rw [rounds_succ]
        go_wp2_with fail
        rw [rounds_succ]
        go_wp2_with fail
        go_region_law (first | (refine step_append_lies _ (by rfl) (.tmp 32) (.tmp 40) 77 (by rfl) w.heap.size 5 i0 (.int .u8 0) 1 1 Tryz.underlying77 hi hz0 hz1 hz2 rfl (by decide) _ _ _ (by rfl) (by exact hown.alloc _) ⟨wr.heap.size, 0, none⟩ 2 2 (Lib.byteCells [L64 (N / 262144), L64 (N / 4096 % 64)]) (by rfl) (by rfl) (by exact hnw _ rfl) hone (by omega) (by unfold maxLen; omega) (by omega) (by simp; omega) _ rfl ?_; intro g cap w1 hown' hgrow _ _))
        all_goals
          have hbel1 : Below w.heap.size w w1 := ((below_drewN hbel 1).alloc hbel.size _).grown hgrow (by have := hbel.size; simp; omega) (fun j hj => (hown.lt j hj).1)
          rw [cells_app] at hown'
          have hown1 : w1.ownsRow w.heap.size 5 1 (.slice (some ⟨g, 0, none⟩) (out.length + 2) cap) (out ++ [L64 (N / 262144), L64 (N / 4096 % 64)]).length (Lib.byteCells (out ++ [L64 (N / 262144), L64 (N / 4096 % 64)])) := by rw [List.length_append]; exact hown'
          have hz1' := hbel1.size
          clear hown hgrow hbel hown' hnw hone
          go_wp2_with (at_builtin; refine wpList_append_own _ rfl _ _ 77 rfl w.heap.size 5 i0 (.int .u8 0) 1 1 Tryz.underlying77 hi hz0 hz1 hz2 rfl (by decide) _ _ _ rfl (hown1.alloc _) ⟨w1.heap.size, 0, none⟩ 1 1 (Lib.byteCells [61]) rfl rfl (by exact news_at w1 _ rfl _) (byteCells_one [61]) (by simp only [List.length_append, List.length_cons, List.length_nil]; unfold maxLen; omega) (by simp only [List.length_append, List.length_cons, List.length_nil]; omega) (by simp; omega) ?_)
          intro v2 w2 hown2' hgrow2 _
          have hbel2 : Below w.heap.size w w2 := (hbel1.alloc hbel1.size _).grown hgrow2 (by simp; omega) (fun j hj => (hown1.lt j hj).1)
          rw [cells_app] at hown2'
          have hown2 : w2.ownsRow w.heap.size 5 1 v2 (out ++ [L64 (N / 262144), L64 (N / 4096 % 64)] ++ [61]).length (Lib.byteCells (out ++ [L64 (N / 262144), L64 (N / 4096 % 64)] ++ [61])) := by simpa using hown2'
          have hz2' := hbel2.size
          clear hown1 hgrow2 hbel1 hown2'
          go_wp2_with (at_builtin; refine wpList_append_own _ rfl _ _ 77 rfl w.heap.size 5 i0 (.int .u8 0) 1 1 Tryz.underlying77 hi hz0 hz1 hz2 rfl (by decide) _ _ _ rfl (hown2.alloc _) ⟨w2.heap.size, 0, none⟩ 1 1 (Lib.byteCells [61]) rfl rfl (by exact news_at w2 _ rfl _) (byteCells_one [61]) (by simp only [List.length_append, List.length_cons, List.length_nil]; unfold maxLen; omega) (by simp only [List.length_append, List.length_cons, List.length_nil]; omega) (by simp; omega) ?_)
          intro v3 w3 hown3' hgrow3 _
          have hbel3 : Below w.heap.size w w3 := (hbel2.alloc hbel2.size _).grown hgrow3 (by simp; omega) (fun j hj => (hown2.lt j hj).1)
          rw [cells_app] at hown3'
          have hown3 : w3.ownsRow w.heap.size 5 1 v3 (out ++ [L64 (N / 262144), L64 (N / 4096 % 64)] ++ [61] ++ [61]).length (Lib.byteCells (out ++ [L64 (N / 262144), L64 (N / 4096 % 64)] ++ [61] ++ [61])) := by simpa using hown3'
          have hz3' := hbel3.size
          clear hown2 hgrow3 hbel2 hown3'
          go_wp2_with fail
          go_roundw
          case rel => exact ⟨k + 3, _, by omega, by go_num, hown3, hbel3, by rw [HDD.out]; rw [← HF.out]; simp [b64]⟩
          case measure => simp [intOf]; omega
    · have hf : out = b64 s.data.toList := by
        rw [← HACC.out, List.drop_eq_nil_of_le (by rw [HS.out]; omega)]; simp [b64]
      have HF := Lib.hid hf
      have hconv := conv_own hown
      clear hf
      go_wp2_with fail
      go_ret
      exact ⟨ret_str HF.out, hbel⟩
end Go.Proofs.YtjmgkallgflcdaaGreatDoor
