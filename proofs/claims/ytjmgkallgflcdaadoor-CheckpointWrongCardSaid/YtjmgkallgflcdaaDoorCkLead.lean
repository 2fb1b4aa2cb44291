/-
  cartularylaw21.lead by its contract: where the n-th line of a text begins and ends, where there is one.
-/
import Derived.Test.YtjmgkallgflcdaaDoorCkWrongP
import Derived.OwnWalk
namespace Go.Proofs.YtjmgkallgflcdaaDoor
open Go.RowKit

theorem line_in {l p y q : List UInt8} (hl : l = p ++ (y ++ q)) (hy : ∀ x ∈ y, x ≠ 10) (j : Nat) (hj : j < y.length) : ∃ c : UInt8, l[p.length + j]? = some c ∧ c ≠ 10 := by
  refine ⟨y[j], ?_, hy _ (List.getElem_mem hj)⟩
  rw [hl, List.getElem?_append_right (by omega), show p.length + j - p.length = j by omega, List.getElem?_append_left hj, List.getElem?_eq_getElem hj]
theorem line_out {l p y q : List UInt8} (hl : l = p ++ (y ++ q)) : l[p.length + y.length]? = q[0]? := by
  rw [hl, List.getElem?_append_right (by omega), show p.length + y.length - p.length = y.length by omega, List.getElem?_append_right (by omega), show y.length - y.length = 0 by omega]
theorem fed_split (ls : List (List UInt8)) (m : List UInt8) (k : Nat) (hk : k < ls.length) : fed ls ++ m = fed (ls.take k) ++ (ls[k] ++ 10 :: (fed (ls.drop (k + 1)) ++ m)) := by
  have e : ls = ls.take k ++ (ls[k] :: ls.drop (k + 1)) := by
    rw [← List.drop_eq_getElem_cons hk, List.take_append_drop]
  conv => lhs; rw [e]
  rw [fed_app, fed_cons]
  simp
theorem fed_next (ls : List (List UInt8)) (k : Nat) (hk : k < ls.length) : (fed (ls.take (k + 1))).length = (fed (ls.take k)).length + ls[k].length + 1 := by
  rw [List.take_add_one, List.getElem?_eq_getElem hk, fed_app]
  simp [fed]
  omega
theorem drewN_drewN (w : World) (a b : Nat) : (w.drewN a).drewN b = w.drewN (a + b) := by
  induction b with
  | zero => rfl
  | succ b ih => 
    show ((w.drewN a).drewN b).drew = (w.drewN (a + b)).drew
    rw [ih]

set_option maxHeartbeats 2000000 in
theorem lead_any (s : ByteArray) (w : World) (ls : List (List UInt8)) (b t : List UInt8) (hl : s.data.toList = fed ls ++ (b ++ t)) (hs : s.size ≤ 1048576) (hno : ∀ y ∈ ls, ∀ x ∈ y, x ≠ 10) (hnb : ∀ x ∈ b, x ≠ 10) (ht : t = [] ∨ ∃ r, t = 10 :: r) (h19 : ls.length ≤ 19) :
    Calls Tryd.prog 16 #[.string s, .int .i64 (ls.length : Int)] w fun e w' => e = .returned (.tuple #[.int .i64 ((fed ls).length : Int), .int .i64 (((fed ls).length : Int) + (b.length : Int)), .bool true]) ∧ Below w.heap.size w w' := by
  have HS := Lib.hid (size_list s)
  have HL := Lib.hid hl
  have HNO := Lib.hid hno
  have HNB := Lib.hid hnb
  have HT := Lib.hid ht
  clear hl hno hnb ht
  go_enter Tryd.func16, Tryd.ntmps16
  go_wp2_with fail
  go_loopw [7, 8] (fun va vk wr => ∃ k n : Nat, k ≤ ls.length ∧ vk = .int .i64 k ∧ va = .int .i64 ((fed (ls.take k)).length : Int) ∧ wr = w.drewN n) (fun _ vk _ => ls.length - (intOf vk).toNat)
  case atStart => exact ⟨0, 0, by omega, rfl, rfl, rfl⟩
  case round =>
    obtain ⟨k, n, hk, rfl, rfl, rfl⟩ := hrel
    by_cases hlt : k < ls.length
    · have hki : (k : Int) < (ls.length : Int) := by omega
      have hsp := HL.out
      rw [fed_split ls (b ++ t) k hlt] at hsp
      have hy := HNO.out ls[k] (List.getElem_mem hlt)
      have hnext := fed_next ls k hlt
      have HIN := Lib.hid (fun j hj => line_in hsp hy j hj)
      have hout := line_out hsp
      rw [List.getElem?_cons_zero] at hout
      have HX := Lib.hid hnext
      generalize (fed (ls.take k)).length = P at *
      generalize ls[k] = y at *
      have hPs : P + y.length < s.size := by
        have := (List.getElem?_eq_some_iff.1 hout).1
        rwa [HS.out] at this
      have HOUT := Lib.hid hout
      clear hsp hy hnext hout
      go_wp2_with fail
      go_loopw [7] (fun va wr => ∃ j n : Nat, j ≤ y.length ∧ va = .int .i64 ((P : Int) + (j : Int)) ∧ wr = w.drewN n) (fun va _ => P + y.length - (intOf va).toNat)
      case atStart => exact ⟨0, n, by omega, rfl, rfl⟩
      case round =>
        obtain ⟨j, m, hj, rfl, rfl⟩ := hrel
        by_cases hjl : j < y.length
        · obtain ⟨c, hc, hc10⟩ := HIN.out j hjl
          have xk := fun w => run_idx (P := Tryd.prog) Tryd.underlying9 s (P + j) c hc ((P : Int) + (j : Int)) (by omega) .i64 w
          have i1 : (P : Int) + (j : Int) < (s.size : Int) := by omega
          have hcn : ((c.toNat : Int) != 10) = true := by
            rw [bne_iff_ne]
            intro e
            exact hc10 (UInt8.toNat_inj.1 (by simpa using (by omega : c.toNat = 10)))
          clear hc hc10
          go_wp2_with fail
          go_roundw
          case rel => exact ⟨j + 1, _, by omega, by go_num, rfl⟩
          case measure => simp [intOf]; omega
        · obtain rfl : j = y.length := by omega
          have xk := fun w => run_idx (P := Tryd.prog) Tryd.underlying9 s (P + y.length) 10 HOUT.out ((P : Int) + (y.length : Int)) (by omega) .i64 w
          have i1 : (P : Int) + (y.length : Int) < (s.size : Int) := by omega
          have i2 : (((P : Int) + (y.length : Int)) == (s.size : Int)) = false := by rw [beq_eq_false_iff_ne]; omega
          go_wp2_with fail
          go_roundw
          case rel => exact ⟨k + 1, _, by omega, by go_num, by rw [HX.out]; go_num, rfl⟩
          case measure => simp [intOf]; omega
    · obtain rfl : k = ls.length := by omega
      have hsp := HL.out
      rw [List.take_length]
      have hlen : (fed ls).length + b.length + t.length = s.size := by
        rw [← HS.out, HL.out]
        simp only [List.length_append]
        omega
      obtain ⟨P, hP⟩ : ∃ P, (fed ls).length = P := ⟨_, rfl⟩
      have HIN : RowKit.Hid (∀ j, j < b.length → ∃ c : UInt8, s.data.toList[P + j]? = some c ∧ c ≠ 10) := fun j hj => by
        rw [← hP]
        exact line_in hsp HNB.out j hj
      have hout : s.data.toList[P + b.length]? = t[0]? := by
        rw [← hP]
        exact line_out hsp
      have HP := Lib.hid hP
      rw [hP] at hlen ⊢
      clear hP
      have HOUT := Lib.hid hout
      clear hsp hout
      go_wp2_with fail
      go_loopw [9] (fun va wr => ∃ j n : Nat, j ≤ b.length ∧ va = .int .i64 ((P : Int) + (j : Int)) ∧ wr = w.drewN n) (fun va _ => P + b.length - (intOf va).toNat)
      case atStart => exact ⟨0, n, by omega, rfl, rfl⟩
      case round =>
        obtain ⟨j, m, hj, rfl, rfl⟩ := hrel
        by_cases hjl : j < b.length
        · obtain ⟨c, hc, hc10⟩ := HIN.out j hjl
          have xk := fun w => run_idx (P := Tryd.prog) Tryd.underlying9 s (P + j) c hc ((P : Int) + (j : Int)) (by omega) .i64 w
          have i1 : (P : Int) + (j : Int) < (s.size : Int) := by omega
          have hcn : ((c.toNat : Int) != 10) = true := by
            rw [bne_iff_ne]
            intro e
            exact hc10 (UInt8.toNat_inj.1 (by simpa using (by omega : c.toNat = 10)))
          clear hc hc10
          go_wp2_with fail
          go_roundw
          case rel => exact ⟨j + 1, _, by omega, by go_num, rfl⟩
          case measure => simp [intOf]; omega
        · obtain rfl : j = b.length := by omega
          rcases HT.out with rfl | ⟨r, rfl⟩
          · have i1 : ¬ (P : Int) + (b.length : Int) < (s.size : Int) := by simp at hlen; omega
            go_wp2_with fail
            go_ret3
            exact ⟨congrArg (fun n : Nat => Ending.returned (.tuple #[.int .i64 (n : Int), .int .i64 ((n : Int) + (b.length : Int)), .bool true])) HP.out.symm, below_drewN (Below.refl _ _) _⟩
          · have hc := HOUT.out
            rw [List.getElem?_cons_zero] at hc
            have xk := fun w => run_idx (P := Tryd.prog) Tryd.underlying9 s (P + b.length) 10 hc ((P : Int) + (b.length : Int)) (by omega) .i64 w
            have i1 : (P : Int) + (b.length : Int) < (s.size : Int) := by simp at hlen; omega
            clear hc
            go_wp2_with fail
            go_ret3
            exact ⟨congrArg (fun n : Nat => Ending.returned (.tuple #[.int .i64 (n : Int), .int .i64 ((n : Int) + (b.length : Int)), .bool true])) HP.out.symm, below_drewN (Below.refl _ _) _⟩
end Go.Proofs.YtjmgkallgflcdaaDoor
