/-
  cartularyref03: Hex by its contract.
-/
import Derived.Test.YtobnlnkmonaohaaDoorRefD
import Derived.Test.YtobnlnkmonaohaaDoorHex
import Derived.Deep.AppendLies
namespace Go.Proofs.YtobnlnkmonaohaaDoor
open Go.RowKit

def RHexRel (s : ByteArray) (w : World) (vo vi : Value) (wr : World) : Prop :=
  ∃ (k : Nat) (out : List UInt8), k ≤ s.size ∧ vi = .int .i64 k ∧ out.length = 2 * k ∧ wr.ownsRow w.heap.size 5 1 vo out.length (Lib.byteCells out) ∧ Below w.heap.size w wr ∧ out ++ hexL (s.data.toList.drop k) = hexL s.data.toList

set_option maxHeartbeats 1000000 in
set_option maxRecDepth 100000 in
theorem refHex_any (s : ByteArray) (w : World) (hs : 2 * s.size ≤ 140737488355328) :
    Calls Tryd.prog 32 #[.string s] w fun e w' => e = .returned (.string ⟨(hexL s.data.toList).toArray⟩) ∧ Below w.heap.size w w' := by
  have HS := Lib.hid (size_list s)
  obtain ⟨i0, hi, hz0, hz1, hz2⟩ := info_parts Tryd.infoByte
  go_enter Tryd.func32, Tryd.ntmps32
  go_wp2_with fail
  go_loopw [3, 4] (fun vo vi wr => RHexRel s w vo vi wr) (fun _ vi _ => s.size - (intOf vi).toNat)
  case atStart => exact ⟨0, [], by omega, rfl, rfl, World.ownsRow_nil _ _ _ _, Below.refl _ _, rfl⟩
  case round =>
    obtain ⟨k, out, hk, rfl, hol, hown, hbel, hacc⟩ := hrel
    have HA := Lib.hid hacc
    clear hacc
    have hwsz := hbel.size
    by_cases hlt : k < s.size
    · obtain ⟨c, hc, hd⟩ := drop_at hlt
      have xk := fun w => run_idx (P := Tryd.prog) Tryd.underlying9 s k c hc (k : Int) rfl .i64 w
      have c256 := UInt8.toNat_lt c
      have d0 := fun w => idx_hex w (c.toNat / 16) (by omega) ((c.toNat : Int) / 16) (by omega) .u8
      have d1 := fun w => idx_hex w (c.toNat % 16) (by omega) ((c.toNat : Int) % 16) (by omega) .u8
      have ew0 : IntKind.u8.wrap ((c.toNat : Int) / 16) = (c.toNat : Int) / 16 := by rw [IntKind.wrap_u8]; omega
      have ew1 : (c.toNat : Int).tmod 16 = (c.toNat : Int) % 16 := Int.tmod_eq_emod_of_nonneg (by omega)
      have hfin : out ++ [L16 (c.toNat / 16), L16 (c.toNat % 16)] ++ hexL (s.data.toList.drop (k + 1)) = hexL s.data.toList := by
        rw [← HA.out, hd]; simp [hexL]
      have HF := Lib.hid hfin
      clear hc hd hfin
      go_wp2_with fail
      have hnw : ∀ (W : World), W.heap = wr.heap → ∀ j u, (Lib.byteCells [L16 (c.toNat / 16), L16 (c.toNat % 16)])[j]? = some u → (W.alloc (.cells #[.int .u8 ((L16 (c.toNat / 16)).toNat : Int), .int .u8 ((L16 (c.toNat % 16)).toNat : Int)] 5)).cell? ((⟨wr.heap.size, 0, none⟩ : Addr).add j) = some u := fun W hW j u hj => by
        rw [← hW]
        exact (heap_news W _ [L16 (c.toNat / 16), L16 (c.toNat % 16)] j).trans hj
      have hone := byteCells_one [L16 (c.toNat / 16), L16 (c.toNat % 16)]
      go_region_law (first | (refine step_append_lies _ (by rfl) (.tmp 11) (.tmp 22) 66 (by rfl) w.heap.size 5 i0 (.int .u8 0) 1 1 Tryd.underlying66 hi hz0 hz1 hz2 rfl (by decide) _ _ _ (by rfl) (by exact hown.alloc _) ⟨wr.heap.size, 0, none⟩ 2 2 (Lib.byteCells [L16 (c.toNat / 16), L16 (c.toNat % 16)]) (by rfl) (by rfl) (by exact hnw _ rfl) hone (by omega) (by unfold maxLen; omega) (by omega) (by simp; omega) _ rfl ?_; intro g cap w' hown' hgrow _ _))
      all_goals
        have hbel1 : Below w.heap.size w w' := ((below_drewN hbel 1).alloc hbel.size _).grown hgrow (by have := hbel.size; simp; omega) (fun j hj => (hown.lt j hj).1)
        rw [cells_app] at hown'
        have hown1 : w'.ownsRow w.heap.size 5 1 (.slice (some ⟨g, 0, none⟩) (2 * k + 2) cap) (out ++ [L16 (c.toNat / 16), L16 (c.toNat % 16)]).length (Lib.byteCells (out ++ [L16 (c.toNat / 16), L16 (c.toNat % 16)])) := by rw [List.length_append, ← hol]; exact hown'
        clear hown hgrow hbel hown' hnw hone
        go_wp2_with fail
        go_roundw
        case rel => exact ⟨k + 1, _, by omega, by go_num, by simp; omega, hown1, hbel1, HF.out⟩
        case measure => simp [intOf]; omega
    · have hfin : out = hexL s.data.toList := by
        rw [← HA.out, List.drop_eq_nil_of_le (by rw [HS.out]; omega)]; simp [hexL]
      have HF := Lib.hid hfin
      have hconv := conv_own hown
      clear hfin
      go_wp2_with fail
      go_ret
      exact ⟨ret_str HF.out, hbel⟩
end Go.Proofs.YtobnlnkmonaohaaDoor
