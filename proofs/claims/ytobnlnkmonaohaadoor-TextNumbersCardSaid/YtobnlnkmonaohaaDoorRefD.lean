/-
  cartularyref03: number, group and Wrong64 by contracts.
-/
import Derived.Test.YtobnlnkmonaohaaDoorRef64P
import Derived.Test.YtobnlnkmonaohaaDoorHexP
namespace Go.Proofs.YtobnlnkmonaohaaDoor
open Go.RowKit

theorem ret_int {k : IntKind} {a b : Int} (h : a = b) : Ending.returned (.int k a) = Ending.returned (.int k b) := by rw [h]
theorem drop_cons {l : List UInt8} {k : Nat} {c : UInt8} (h : l[k]? = some c) : l.drop k = c :: l.drop (k + 1) := by
  have hlt := (List.getElem?_eq_some_iff.1 h).1
  rw [List.drop_eq_getElem_cons hlt]
  congr 1
  exact (List.getElem?_eq_some_iff.1 h).2
theorem indexByte_step (x c : UInt8) (r : List UInt8) : Lib.indexByte (x :: r) c = if x = c then 0 else if Lib.indexByte r c = -1 then -1 else Lib.indexByte r c + 1 := by
  conv => lhs; unfold Lib.indexByte
  by_cases h : x = c
  · simp [h]
  · have : (x == c) = false := by simp [h]
    rw [this, if_neg (by simp), if_neg h]
    by_cases h2 : Lib.indexByte r c = -1
    · simp [h2]
    · rw [if_neg (by simpa using h2), if_neg h2]

set_option maxHeartbeats 1000000 in
theorem number_any (A : ByteArray) (c : UInt8) (w : World) (hA : A.size ≤ 9223372036854775807) :
    Calls Tryd.prog 50 #[.string A, .int .u8 (c.toNat : Int)] w fun e w' => e = .returned (.int .i64 (Lib.indexByte A.data.toList c)) ∧ w = w' := by
  have hsz := size_list A
  have HS := Lib.hid hsz
  clear hsz
  go_enter Tryd.func50, Tryd.ntmps50
  go_wp2_with fail
  go_loop [5] (fun i => ∃ k : Nat, k ≤ A.size ∧ i = .int .i64 k ∧ Lib.indexByte A.data.toList c = if Lib.indexByte (A.data.toList.drop k) c = -1 then -1 else Lib.indexByte (A.data.toList.drop k) c + k) (fun i => A.size - (intOf i).toNat)
  case atStart =>
    refine ⟨0, by omega, rfl, ?_⟩
    rw [List.drop_zero]
    by_cases h : Lib.indexByte A.data.toList c = -1
    · rw [if_pos h, h]
    · rw [if_neg h]; simp
  case round =>
    obtain ⟨k, hk, rfl, hrun⟩ := hrel
    have HR := Lib.hid hrun
    clear hrun
    by_cases hlt : k < A.size
    · obtain ⟨x, hx⟩ : ∃ x, A.data.toList[k]? = some x := ⟨_, List.getElem?_eq_getElem (by rw [size_list]; exact hlt)⟩
      have xk := fun w => run_idx (P := Tryd.prog) Tryd.underlying9 A k x hx (k : Int) rfl .i64 w
      have hst := indexByte_step x c (A.data.toList.drop (k + 1))
      rw [← drop_cons hx] at hst
      have HST := Lib.hid hst
      have hxc := UInt8.toNat_lt x
      clear hx hst
      by_cases he : x = c
      · subst he
        have hf : Lib.indexByte A.data.toList x = k := by rw [HR.out, HST.out, if_pos rfl, if_neg (by omega)]; omega
        have HF := Lib.hid hf
        clear hf
        go_wp2_with fail
        go_ret
        exact ⟨ret_int HF.out.symm, rfl⟩
      · have hne : ((x.toNat : Int) == (c.toNat : Int)) = false := by
          rw [beq_eq_false_iff_ne]; intro e; exact he (UInt8.toNat_inj.1 (by omega))
        have hf : Lib.indexByte A.data.toList c = if Lib.indexByte (A.data.toList.drop (k + 1)) c = -1 then -1 else Lib.indexByte (A.data.toList.drop (k + 1)) c + ((k + 1 : Nat) : Int) := by
          have hge := Lib.indexByte_ge (A.data.toList.drop (k + 1)) c
          rw [HR.out, HST.out, if_neg he]
          by_cases h2 : Lib.indexByte (A.data.toList.drop (k + 1)) c = -1
          · rw [if_pos h2, if_pos rfl, if_pos h2]
          · rw [if_neg h2, if_neg (by omega), if_neg h2]; omega
        have HF := Lib.hid hf
        clear hf he
        go_wp2_with fail
        go_round
        case rel => exact ⟨k + 1, by omega, by go_num, HF.out⟩
        case measure => simp [intOf]; omega
    · have hf : Lib.indexByte A.data.toList c = -1 := by
        rw [HR.out, List.drop_eq_nil_of_le (by rw [HS.out]; omega)]; rfl
      have HF := Lib.hid hf
      clear hf
      go_wp2_with fail
      go_ret
      exact ⟨ret_int HF.out.symm, rfl⟩
theorem num64_any (c : UInt8) (w : World) : Calls Tryd.prog 50 #[.string ⟨#[65, 66, 67, 68, 69, 70, 71, 72, 73, 74, 75, 76, 77, 78, 79, 80, 81, 82, 83, 84, 85, 86, 87, 88, 89, 90, 97, 98, 99, 100, 101, 102, 103, 104, 105, 106, 107, 108, 109, 110, 111, 112, 113, 114, 115, 116, 117, 118, 119, 120, 121, 122, 48, 49, 50, 51, 52, 53, 54, 55, 56, 57, 43, 47]⟩, .int .u8 (c.toNat : Int)] w fun e w' => e = .returned (.int .i64 (idx64 c)) ∧ w = w' :=
  number_any ⟨#[65, 66, 67, 68, 69, 70, 71, 72, 73, 74, 75, 76, 77, 78, 79, 80, 81, 82, 83, 84, 85, 86, 87, 88, 89, 90, 97, 98, 99, 100, 101, 102, 103, 104, 105, 106, 107, 108, 109, 110, 111, 112, 113, 114, 115, 116, 117, 118, 119, 120, 121, 122, 48, 49, 50, 51, 52, 53, 54, 55, 56, 57, 43, 47]⟩ c w (by decide)
theorem num16_any (c : UInt8) (w : World) : Calls Tryd.prog 50 #[.string ⟨#[48, 49, 50, 51, 52, 53, 54, 55, 56, 57, 97, 98, 99, 100, 101, 102]⟩, .int .u8 (c.toNat : Int)] w fun e w' => e = .returned (.int .i64 (idx16 c)) ∧ w = w' :=
  number_any ⟨#[48, 49, 50, 51, 52, 53, 54, 55, 56, 57, 97, 98, 99, 100, 101, 102]⟩ c w (by decide)
end Go.Proofs.YtobnlnkmonaohaaDoor
