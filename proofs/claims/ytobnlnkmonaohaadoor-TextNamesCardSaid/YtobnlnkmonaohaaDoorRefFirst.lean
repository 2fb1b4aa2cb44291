/-
  cartularyref03: First by its contract (printed by wip/genfirst.py).
-/
import Derived.Test.YtobnlnkmonaohaaDoorFirstP
import Derived.BigQuiet
namespace Go.Proofs.YtobnlnkmonaohaaDoor
open Go.RowKit

theorem fol_calls (s : ByteArray) (k : Nat) (b : Bool) (h : folB s.data.toList k = b) (w : World) : Calls Tryd.prog 82 #[.string s, .int .i64 (k : Int)] w fun e w' => e = .returned (.bool b) ∧ w = w' := by
  rw [← h]; exact follows_any s k w
theorem fol_at {l : List UInt8} {k : Nat} (h : folB l k = true) : ∃ c, l[k]? = some c ∧ l.getD k 0 = c ∧ c.toNat / 64 = 2 := by
  unfold folB at h
  simp only [Bool.and_eq_true, decide_eq_true_eq] at h
  refine ⟨l[k], List.getElem?_eq_getElem h.1, by simp [List.getD, h.1], ?_⟩
  have := h.2
  simpa [List.getD, h.1] using this
theorem fol_iff (l : List UInt8) (k : Nat) : fol l.length (l.getD k 0).toNat k ↔ folB l k = true := by
  unfold fol folB
  simp

set_option maxHeartbeats 1000000 in
set_option maxRecDepth 100000 in
theorem first_ascii (s : ByteArray) (a : UInt8) (w : World) (ha : s.data.toList[0]? = some a) (h : a.toNat < 128) :
    Calls Tryd.prog 69 #[.string s] w fun e w' => e = .returned (.tuple #[.int .i32 (a.toNat : Int), .int .i64 1]) ∧ ∃ n, w' = w.drewN n := by
  have x0 := fun w => run_idx (P := Tryd.prog) Tryd.underlying9 s 0 a ha 0 rfl .i64 w
  have a256 := UInt8.toNat_lt a
  clear ha
  go_enter Tryd.func69, Tryd.ntmps69
  go_wp2_with fail
  go_ret2
  exact ⟨rfl, 0, rfl⟩

set_option maxHeartbeats 1000000 in
set_option maxRecDepth 100000 in
theorem first_low (s : ByteArray) (a : UInt8) (w : World) (ha : s.data.toList[0]? = some a) (h1 : 128 ≤ a.toNat) (h2 : a.toNat < 194) :
    Calls Tryd.prog 69 #[.string s] w fun e w' => e = .returned (.tuple #[.int .i32 0, .int .i64 0]) ∧ ∃ n, w' = w.drewN n := by
  have x0 := fun w => run_idx (P := Tryd.prog) Tryd.underlying9 s 0 a ha 0 rfl .i64 w
  have a256 := UInt8.toNat_lt a
  clear ha
  go_enter Tryd.func69, Tryd.ntmps69
  go_wp2_with fail
  go_ret2
  exact ⟨rfl, 0, rfl⟩

set_option maxHeartbeats 1000000 in
set_option maxRecDepth 100000 in
theorem first_high (s : ByteArray) (a : UInt8) (w : World) (ha : s.data.toList[0]? = some a) (h1 : 245 ≤ a.toNat) :
    Calls Tryd.prog 69 #[.string s] w fun e w' => e = .returned (.tuple #[.int .i32 0, .int .i64 0]) ∧ ∃ n, w' = w.drewN n := by
  have x0 := fun w => run_idx (P := Tryd.prog) Tryd.underlying9 s 0 a ha 0 rfl .i64 w
  have a256 := UInt8.toNat_lt a
  clear ha
  go_enter Tryd.func69, Tryd.ntmps69
  go_wp2_with fail
  go_ret2
  exact ⟨rfl, 0, rfl⟩

set_option maxHeartbeats 1000000 in
set_option maxRecDepth 100000 in
theorem first_C_no (s : ByteArray) (a : UInt8) (w : World) (ha : s.data.toList[0]? = some a) (h1 : 194 ≤ a.toNat) (h2 : a.toNat < 224) (f1 : folB s.data.toList 1 = false) :
    Calls Tryd.prog 69 #[.string s] w fun e w' => e = .returned (.tuple #[.int .i32 0, .int .i64 0]) ∧ ∃ n, w' = w.drewN n := by
  have x0 := fun w => run_idx (P := Tryd.prog) Tryd.underlying9 s 0 a ha 0 rfl .i64 w
  have a256 := UInt8.toNat_lt a
  have F1 := fol_calls s 1 false f1
  have HF1 := Lib.hid F1
  clear ha f1 F1
  go_enter Tryd.func69, Tryd.ntmps69
  go_wp2_with fail
  refine (HF1.out _).mono ?_
  rintro e w1 ⟨rfl, rfl⟩
  go_wp2_with fail
  go_ret2
  exact ⟨rfl, 0, rfl⟩

set_option maxHeartbeats 1000000 in
set_option maxRecDepth 100000 in
theorem first_E_no1 (s : ByteArray) (a : UInt8) (w : World) (ha : s.data.toList[0]? = some a) (h1 : 224 ≤ a.toNat) (h2 : a.toNat < 240) (f1 : folB s.data.toList 1 = false) :
    Calls Tryd.prog 69 #[.string s] w fun e w' => e = .returned (.tuple #[.int .i32 0, .int .i64 0]) ∧ ∃ n, w' = w.drewN n := by
  have x0 := fun w => run_idx (P := Tryd.prog) Tryd.underlying9 s 0 a ha 0 rfl .i64 w
  have a256 := UInt8.toNat_lt a
  have F1 := fol_calls s 1 false f1
  have HF1 := Lib.hid F1
  clear ha f1 F1
  go_enter Tryd.func69, Tryd.ntmps69
  go_wp2_with fail
  refine (HF1.out _).mono ?_
  rintro e w1 ⟨rfl, rfl⟩
  go_wp2_with fail
  go_ret2
  exact ⟨rfl, 0, rfl⟩

set_option maxHeartbeats 1000000 in
set_option maxRecDepth 100000 in
theorem first_E_no2 (s : ByteArray) (a : UInt8) (w : World) (ha : s.data.toList[0]? = some a) (h1 : 224 ≤ a.toNat) (h2 : a.toNat < 240) (f1 : folB s.data.toList 1 = true) (f2 : folB s.data.toList 2 = false) :
    Calls Tryd.prog 69 #[.string s] w fun e w' => e = .returned (.tuple #[.int .i32 0, .int .i64 0]) ∧ ∃ n, w' = w.drewN n := by
  have x0 := fun w => run_idx (P := Tryd.prog) Tryd.underlying9 s 0 a ha 0 rfl .i64 w
  have a256 := UInt8.toNat_lt a
  have F1 := fol_calls s 1 true f1
  have HF1 := Lib.hid F1
  have F2 := fol_calls s 2 false f2
  have HF2 := Lib.hid F2
  clear ha f1 F1 f2 F2
  go_enter Tryd.func69, Tryd.ntmps69
  go_wp2_with fail
  refine (HF1.out _).mono ?_
  rintro e w1 ⟨rfl, rfl⟩
  go_wp2_with fail
  refine (HF2.out _).mono ?_
  rintro e w2 ⟨rfl, rfl⟩
  go_wp2_with fail
  go_ret2
  exact ⟨rfl, 0, rfl⟩

set_option maxHeartbeats 1000000 in
set_option maxRecDepth 100000 in
theorem first_F_no1 (s : ByteArray) (a : UInt8) (w : World) (ha : s.data.toList[0]? = some a) (h1 : 240 ≤ a.toNat) (h2 : a.toNat < 245) (f1 : folB s.data.toList 1 = false) :
    Calls Tryd.prog 69 #[.string s] w fun e w' => e = .returned (.tuple #[.int .i32 0, .int .i64 0]) ∧ ∃ n, w' = w.drewN n := by
  have x0 := fun w => run_idx (P := Tryd.prog) Tryd.underlying9 s 0 a ha 0 rfl .i64 w
  have a256 := UInt8.toNat_lt a
  have F1 := fol_calls s 1 false f1
  have HF1 := Lib.hid F1
  clear ha f1 F1
  go_enter Tryd.func69, Tryd.ntmps69
  go_wp2_with fail
  refine (HF1.out _).mono ?_
  rintro e w1 ⟨rfl, rfl⟩
  go_wp2_with fail
  go_ret2
  exact ⟨rfl, 0, rfl⟩

set_option maxHeartbeats 1000000 in
set_option maxRecDepth 100000 in
theorem first_F_no2 (s : ByteArray) (a : UInt8) (w : World) (ha : s.data.toList[0]? = some a) (h1 : 240 ≤ a.toNat) (h2 : a.toNat < 245) (f1 : folB s.data.toList 1 = true) (f2 : folB s.data.toList 2 = false) :
    Calls Tryd.prog 69 #[.string s] w fun e w' => e = .returned (.tuple #[.int .i32 0, .int .i64 0]) ∧ ∃ n, w' = w.drewN n := by
  have x0 := fun w => run_idx (P := Tryd.prog) Tryd.underlying9 s 0 a ha 0 rfl .i64 w
  have a256 := UInt8.toNat_lt a
  have F1 := fol_calls s 1 true f1
  have HF1 := Lib.hid F1
  have F2 := fol_calls s 2 false f2
  have HF2 := Lib.hid F2
  clear ha f1 F1 f2 F2
  go_enter Tryd.func69, Tryd.ntmps69
  go_wp2_with fail
  refine (HF1.out _).mono ?_
  rintro e w1 ⟨rfl, rfl⟩
  go_wp2_with fail
  refine (HF2.out _).mono ?_
  rintro e w2 ⟨rfl, rfl⟩
  go_wp2_with fail
  go_ret2
  exact ⟨rfl, 0, rfl⟩

set_option maxHeartbeats 1000000 in
set_option maxRecDepth 100000 in
theorem first_F_no3 (s : ByteArray) (a : UInt8) (w : World) (ha : s.data.toList[0]? = some a) (h1 : 240 ≤ a.toNat) (h2 : a.toNat < 245) (f1 : folB s.data.toList 1 = true) (f2 : folB s.data.toList 2 = true) (f3 : folB s.data.toList 3 = false) :
    Calls Tryd.prog 69 #[.string s] w fun e w' => e = .returned (.tuple #[.int .i32 0, .int .i64 0]) ∧ ∃ n, w' = w.drewN n := by
  have x0 := fun w => run_idx (P := Tryd.prog) Tryd.underlying9 s 0 a ha 0 rfl .i64 w
  have a256 := UInt8.toNat_lt a
  have F1 := fol_calls s 1 true f1
  have HF1 := Lib.hid F1
  have F2 := fol_calls s 2 true f2
  have HF2 := Lib.hid F2
  have F3 := fol_calls s 3 false f3
  have HF3 := Lib.hid F3
  clear ha f1 F1 f2 F2 f3 F3
  go_enter Tryd.func69, Tryd.ntmps69
  go_wp2_with fail
  refine (HF1.out _).mono ?_
  rintro e w1 ⟨rfl, rfl⟩
  go_wp2_with fail
  refine (HF2.out _).mono ?_
  rintro e w2 ⟨rfl, rfl⟩
  go_wp2_with fail
  refine (HF3.out _).mono ?_
  rintro e w3 ⟨rfl, rfl⟩
  go_wp2_with fail
  go_ret2
  exact ⟨rfl, 0, rfl⟩

set_option maxHeartbeats 1000000 in
set_option maxRecDepth 100000 in
theorem first_C (s : ByteArray) (a : UInt8) (w : World) (ha : s.data.toList[0]? = some a) (h1 : 194 ≤ a.toNat) (h2 : a.toNat < 224) (f1 : folB s.data.toList 1 = true) (b1 : UInt8) (e1 : s.data.toList[1]? = some b1) (q1 : b1.toNat / 64 = 2) :
    Calls Tryd.prog 69 #[.string s] w fun e w' => e = .returned (.tuple #[.int .i32 (((a.toNat - 192) * 64 + (b1.toNat - 128) : Nat) : Int), .int .i64 2]) ∧ ∃ n, w' = w.drewN n := by
  have x0 := fun w => run_idx (P := Tryd.prog) Tryd.underlying9 s 0 a ha 0 rfl .i64 w
  have a256 := UInt8.toNat_lt a
  have F1 := fol_calls s 1 true f1
  have HF1 := Lib.hid F1
  have x1 := fun w => run_idx (P := Tryd.prog) Tryd.underlying9 s 1 b1 e1 1 rfl .i64 w
  have b1256 := UInt8.toNat_lt b1
  clear e1
  clear ha f1 F1
  go_enter Tryd.func69, Tryd.ntmps69
  go_wp2_with fail
  refine (HF1.out _).mono ?_
  rintro e w1 ⟨rfl, rfl⟩
  go_wp2_with fail
  go_ret2
  refine ⟨?_, 0, rfl⟩
  congr 3
  go_num

set_option maxHeartbeats 1000000 in
set_option maxRecDepth 100000 in
theorem first_E_lt (s : ByteArray) (a : UInt8) (w : World) (ha : s.data.toList[0]? = some a) (h1 : 224 ≤ a.toNat) (h2 : a.toNat < 240) (f1 : folB s.data.toList 1 = true) (f2 : folB s.data.toList 2 = true) (b1 : UInt8) (e1 : s.data.toList[1]? = some b1) (q1 : b1.toNat / 64 = 2) (b2 : UInt8) (e2 : s.data.toList[2]? = some b2) (q2 : b2.toNat / 64 = 2) (hc : v3 a.toNat b1.toNat b2.toNat < 2048) :
    Calls Tryd.prog 69 #[.string s] w fun e w' => e = .returned (.tuple #[.int .i32 0, .int .i64 0]) ∧ ∃ n, w' = w.drewN n := by
  have x0 := fun w => run_idx (P := Tryd.prog) Tryd.underlying9 s 0 a ha 0 rfl .i64 w
  have a256 := UInt8.toNat_lt a
  have F1 := fol_calls s 1 true f1
  have HF1 := Lib.hid F1
  have F2 := fol_calls s 2 true f2
  have HF2 := Lib.hid F2
  have x1 := fun w => run_idx (P := Tryd.prog) Tryd.underlying9 s 1 b1 e1 1 rfl .i64 w
  have b1256 := UInt8.toNat_lt b1
  have x2 := fun w => run_idx (P := Tryd.prog) Tryd.underlying9 s 2 b2 e2 2 rfl .i64 w
  have b2256 := UInt8.toNat_lt b2
  unfold v3 at hc

  clear e1 e2
  clear ha f1 F1 f2 F2
  go_enter Tryd.func69, Tryd.ntmps69
  go_wp2_with fail
  refine (HF1.out _).mono ?_
  rintro e w1 ⟨rfl, rfl⟩
  go_wp2_with fail
  refine (HF2.out _).mono ?_
  rintro e w2 ⟨rfl, rfl⟩
  go_wp2_with fail
  go_quiet (fail)
  go_wp2_with fail
  go_ret2

  exact ⟨rfl, _, rfl⟩

set_option maxHeartbeats 1000000 in
set_option maxRecDepth 100000 in
theorem first_E_sur (s : ByteArray) (a : UInt8) (w : World) (ha : s.data.toList[0]? = some a) (h1 : 224 ≤ a.toNat) (h2 : a.toNat < 240) (f1 : folB s.data.toList 1 = true) (f2 : folB s.data.toList 2 = true) (b1 : UInt8) (e1 : s.data.toList[1]? = some b1) (q1 : b1.toNat / 64 = 2) (b2 : UInt8) (e2 : s.data.toList[2]? = some b2) (q2 : b2.toNat / 64 = 2) (hc : 55296 ≤ v3 a.toNat b1.toNat b2.toNat ∧ v3 a.toNat b1.toNat b2.toNat ≤ 57343) :
    Calls Tryd.prog 69 #[.string s] w fun e w' => e = .returned (.tuple #[.int .i32 0, .int .i64 0]) ∧ ∃ n, w' = w.drewN n := by
  have x0 := fun w => run_idx (P := Tryd.prog) Tryd.underlying9 s 0 a ha 0 rfl .i64 w
  have a256 := UInt8.toNat_lt a
  have F1 := fol_calls s 1 true f1
  have HF1 := Lib.hid F1
  have F2 := fol_calls s 2 true f2
  have HF2 := Lib.hid F2
  have x1 := fun w => run_idx (P := Tryd.prog) Tryd.underlying9 s 1 b1 e1 1 rfl .i64 w
  have b1256 := UInt8.toNat_lt b1
  have x2 := fun w => run_idx (P := Tryd.prog) Tryd.underlying9 s 2 b2 e2 2 rfl .i64 w
  have b2256 := UInt8.toNat_lt b2
  unfold v3 at hc

  clear e1 e2
  clear ha f1 F1 f2 F2
  go_enter Tryd.func69, Tryd.ntmps69
  go_wp2_with fail
  refine (HF1.out _).mono ?_
  rintro e w1 ⟨rfl, rfl⟩
  go_wp2_with fail
  refine (HF2.out _).mono ?_
  rintro e w2 ⟨rfl, rfl⟩
  go_wp2_with fail
  go_quiet (fail)
  go_wp2_with fail
  go_ret2

  exact ⟨rfl, _, rfl⟩

set_option maxHeartbeats 1000000 in
set_option maxRecDepth 100000 in
theorem first_E_lo (s : ByteArray) (a : UInt8) (w : World) (ha : s.data.toList[0]? = some a) (h1 : 224 ≤ a.toNat) (h2 : a.toNat < 240) (f1 : folB s.data.toList 1 = true) (f2 : folB s.data.toList 2 = true) (b1 : UInt8) (e1 : s.data.toList[1]? = some b1) (q1 : b1.toNat / 64 = 2) (b2 : UInt8) (e2 : s.data.toList[2]? = some b2) (q2 : b2.toNat / 64 = 2) (hc : 2048 ≤ v3 a.toNat b1.toNat b2.toNat ∧ v3 a.toNat b1.toNat b2.toNat < 55296) :
    Calls Tryd.prog 69 #[.string s] w fun e w' => e = .returned (.tuple #[.int .i32 ((v3 a.toNat b1.toNat b2.toNat : Nat) : Int), .int .i64 3]) ∧ ∃ n, w' = w.drewN n := by
  have x0 := fun w => run_idx (P := Tryd.prog) Tryd.underlying9 s 0 a ha 0 rfl .i64 w
  have a256 := UInt8.toNat_lt a
  have F1 := fol_calls s 1 true f1
  have HF1 := Lib.hid F1
  have F2 := fol_calls s 2 true f2
  have HF2 := Lib.hid F2
  have x1 := fun w => run_idx (P := Tryd.prog) Tryd.underlying9 s 1 b1 e1 1 rfl .i64 w
  have b1256 := UInt8.toNat_lt b1
  have x2 := fun w => run_idx (P := Tryd.prog) Tryd.underlying9 s 2 b2 e2 2 rfl .i64 w
  have b2256 := UInt8.toNat_lt b2
  unfold v3 at hc
  unfold v3

  clear e1 e2
  clear ha f1 F1 f2 F2
  go_enter Tryd.func69, Tryd.ntmps69
  go_wp2_with fail
  refine (HF1.out _).mono ?_
  rintro e w1 ⟨rfl, rfl⟩
  go_wp2_with fail
  refine (HF2.out _).mono ?_
  rintro e w2 ⟨rfl, rfl⟩
  go_wp2_with fail
  go_quiet (fail)
  go_wp2_with fail
  go_ret2

  refine ⟨?_, _, rfl⟩
  congr 3
  go_num

set_option maxHeartbeats 1000000 in
set_option maxRecDepth 100000 in
theorem first_E_hi (s : ByteArray) (a : UInt8) (w : World) (ha : s.data.toList[0]? = some a) (h1 : 224 ≤ a.toNat) (h2 : a.toNat < 240) (f1 : folB s.data.toList 1 = true) (f2 : folB s.data.toList 2 = true) (b1 : UInt8) (e1 : s.data.toList[1]? = some b1) (q1 : b1.toNat / 64 = 2) (b2 : UInt8) (e2 : s.data.toList[2]? = some b2) (q2 : b2.toNat / 64 = 2) (hc : 57343 < v3 a.toNat b1.toNat b2.toNat) :
    Calls Tryd.prog 69 #[.string s] w fun e w' => e = .returned (.tuple #[.int .i32 ((v3 a.toNat b1.toNat b2.toNat : Nat) : Int), .int .i64 3]) ∧ ∃ n, w' = w.drewN n := by
  have x0 := fun w => run_idx (P := Tryd.prog) Tryd.underlying9 s 0 a ha 0 rfl .i64 w
  have a256 := UInt8.toNat_lt a
  have F1 := fol_calls s 1 true f1
  have HF1 := Lib.hid F1
  have F2 := fol_calls s 2 true f2
  have HF2 := Lib.hid F2
  have x1 := fun w => run_idx (P := Tryd.prog) Tryd.underlying9 s 1 b1 e1 1 rfl .i64 w
  have b1256 := UInt8.toNat_lt b1
  have x2 := fun w => run_idx (P := Tryd.prog) Tryd.underlying9 s 2 b2 e2 2 rfl .i64 w
  have b2256 := UInt8.toNat_lt b2
  unfold v3 at hc
  unfold v3

  clear e1 e2
  clear ha f1 F1 f2 F2
  go_enter Tryd.func69, Tryd.ntmps69
  go_wp2_with fail
  refine (HF1.out _).mono ?_
  rintro e w1 ⟨rfl, rfl⟩
  go_wp2_with fail
  refine (HF2.out _).mono ?_
  rintro e w2 ⟨rfl, rfl⟩
  go_wp2_with fail
  go_quiet (fail)
  go_wp2_with fail
  go_ret2

  refine ⟨?_, _, rfl⟩
  congr 3
  go_num

set_option maxHeartbeats 1000000 in
set_option maxRecDepth 100000 in
theorem first_F_lt (s : ByteArray) (a : UInt8) (w : World) (ha : s.data.toList[0]? = some a) (h1 : 240 ≤ a.toNat) (h2 : a.toNat < 245) (f1 : folB s.data.toList 1 = true) (f2 : folB s.data.toList 2 = true) (f3 : folB s.data.toList 3 = true) (b1 : UInt8) (e1 : s.data.toList[1]? = some b1) (q1 : b1.toNat / 64 = 2) (b2 : UInt8) (e2 : s.data.toList[2]? = some b2) (q2 : b2.toNat / 64 = 2) (b3 : UInt8) (e3 : s.data.toList[3]? = some b3) (q3 : b3.toNat / 64 = 2) (hc : v4 a.toNat b1.toNat b2.toNat b3.toNat < 65536) :
    Calls Tryd.prog 69 #[.string s] w fun e w' => e = .returned (.tuple #[.int .i32 0, .int .i64 0]) ∧ ∃ n, w' = w.drewN n := by
  have x0 := fun w => run_idx (P := Tryd.prog) Tryd.underlying9 s 0 a ha 0 rfl .i64 w
  have a256 := UInt8.toNat_lt a
  have F1 := fol_calls s 1 true f1
  have HF1 := Lib.hid F1
  have F2 := fol_calls s 2 true f2
  have HF2 := Lib.hid F2
  have F3 := fol_calls s 3 true f3
  have HF3 := Lib.hid F3
  have x1 := fun w => run_idx (P := Tryd.prog) Tryd.underlying9 s 1 b1 e1 1 rfl .i64 w
  have b1256 := UInt8.toNat_lt b1
  have x2 := fun w => run_idx (P := Tryd.prog) Tryd.underlying9 s 2 b2 e2 2 rfl .i64 w
  have b2256 := UInt8.toNat_lt b2
  have x3 := fun w => run_idx (P := Tryd.prog) Tryd.underlying9 s 3 b3 e3 3 rfl .i64 w
  have b3256 := UInt8.toNat_lt b3
  unfold v4 at hc

  clear e1 e2 e3
  clear ha f1 F1 f2 F2 f3 F3
  go_enter Tryd.func69, Tryd.ntmps69
  go_wp2_with fail
  refine (HF1.out _).mono ?_
  rintro e w1 ⟨rfl, rfl⟩
  go_wp2_with fail
  refine (HF2.out _).mono ?_
  rintro e w2 ⟨rfl, rfl⟩
  go_wp2_with fail
  refine (HF3.out _).mono ?_
  rintro e w3 ⟨rfl, rfl⟩
  go_wp2_with fail
  go_quiet (fail)
  go_wp2_with fail
  go_ret2

  exact ⟨rfl, _, rfl⟩

set_option maxHeartbeats 1000000 in
set_option maxRecDepth 100000 in
theorem first_F_gt (s : ByteArray) (a : UInt8) (w : World) (ha : s.data.toList[0]? = some a) (h1 : 240 ≤ a.toNat) (h2 : a.toNat < 245) (f1 : folB s.data.toList 1 = true) (f2 : folB s.data.toList 2 = true) (f3 : folB s.data.toList 3 = true) (b1 : UInt8) (e1 : s.data.toList[1]? = some b1) (q1 : b1.toNat / 64 = 2) (b2 : UInt8) (e2 : s.data.toList[2]? = some b2) (q2 : b2.toNat / 64 = 2) (b3 : UInt8) (e3 : s.data.toList[3]? = some b3) (q3 : b3.toNat / 64 = 2) (hc : 1114111 < v4 a.toNat b1.toNat b2.toNat b3.toNat) :
    Calls Tryd.prog 69 #[.string s] w fun e w' => e = .returned (.tuple #[.int .i32 0, .int .i64 0]) ∧ ∃ n, w' = w.drewN n := by
  have x0 := fun w => run_idx (P := Tryd.prog) Tryd.underlying9 s 0 a ha 0 rfl .i64 w
  have a256 := UInt8.toNat_lt a
  have F1 := fol_calls s 1 true f1
  have HF1 := Lib.hid F1
  have F2 := fol_calls s 2 true f2
  have HF2 := Lib.hid F2
  have F3 := fol_calls s 3 true f3
  have HF3 := Lib.hid F3
  have x1 := fun w => run_idx (P := Tryd.prog) Tryd.underlying9 s 1 b1 e1 1 rfl .i64 w
  have b1256 := UInt8.toNat_lt b1
  have x2 := fun w => run_idx (P := Tryd.prog) Tryd.underlying9 s 2 b2 e2 2 rfl .i64 w
  have b2256 := UInt8.toNat_lt b2
  have x3 := fun w => run_idx (P := Tryd.prog) Tryd.underlying9 s 3 b3 e3 3 rfl .i64 w
  have b3256 := UInt8.toNat_lt b3
  unfold v4 at hc

  clear e1 e2 e3
  clear ha f1 F1 f2 F2 f3 F3
  go_enter Tryd.func69, Tryd.ntmps69
  go_wp2_with fail
  refine (HF1.out _).mono ?_
  rintro e w1 ⟨rfl, rfl⟩
  go_wp2_with fail
  refine (HF2.out _).mono ?_
  rintro e w2 ⟨rfl, rfl⟩
  go_wp2_with fail
  refine (HF3.out _).mono ?_
  rintro e w3 ⟨rfl, rfl⟩
  go_wp2_with fail
  go_quiet (fail)
  go_wp2_with fail
  go_ret2

  exact ⟨rfl, _, rfl⟩

set_option maxHeartbeats 1000000 in
set_option maxRecDepth 100000 in
theorem first_F_ok (s : ByteArray) (a : UInt8) (w : World) (ha : s.data.toList[0]? = some a) (h1 : 240 ≤ a.toNat) (h2 : a.toNat < 245) (f1 : folB s.data.toList 1 = true) (f2 : folB s.data.toList 2 = true) (f3 : folB s.data.toList 3 = true) (b1 : UInt8) (e1 : s.data.toList[1]? = some b1) (q1 : b1.toNat / 64 = 2) (b2 : UInt8) (e2 : s.data.toList[2]? = some b2) (q2 : b2.toNat / 64 = 2) (b3 : UInt8) (e3 : s.data.toList[3]? = some b3) (q3 : b3.toNat / 64 = 2) (hc : 65536 ≤ v4 a.toNat b1.toNat b2.toNat b3.toNat ∧ v4 a.toNat b1.toNat b2.toNat b3.toNat ≤ 1114111) :
    Calls Tryd.prog 69 #[.string s] w fun e w' => e = .returned (.tuple #[.int .i32 ((v4 a.toNat b1.toNat b2.toNat b3.toNat : Nat) : Int), .int .i64 4]) ∧ ∃ n, w' = w.drewN n := by
  have x0 := fun w => run_idx (P := Tryd.prog) Tryd.underlying9 s 0 a ha 0 rfl .i64 w
  have a256 := UInt8.toNat_lt a
  have F1 := fol_calls s 1 true f1
  have HF1 := Lib.hid F1
  have F2 := fol_calls s 2 true f2
  have HF2 := Lib.hid F2
  have F3 := fol_calls s 3 true f3
  have HF3 := Lib.hid F3
  have x1 := fun w => run_idx (P := Tryd.prog) Tryd.underlying9 s 1 b1 e1 1 rfl .i64 w
  have b1256 := UInt8.toNat_lt b1
  have x2 := fun w => run_idx (P := Tryd.prog) Tryd.underlying9 s 2 b2 e2 2 rfl .i64 w
  have b2256 := UInt8.toNat_lt b2
  have x3 := fun w => run_idx (P := Tryd.prog) Tryd.underlying9 s 3 b3 e3 3 rfl .i64 w
  have b3256 := UInt8.toNat_lt b3
  unfold v4 at hc
  unfold v4

  clear e1 e2 e3
  clear ha f1 F1 f2 F2 f3 F3
  go_enter Tryd.func69, Tryd.ntmps69
  go_wp2_with fail
  refine (HF1.out _).mono ?_
  rintro e w1 ⟨rfl, rfl⟩
  go_wp2_with fail
  refine (HF2.out _).mono ?_
  rintro e w2 ⟨rfl, rfl⟩
  go_wp2_with fail
  refine (HF3.out _).mono ?_
  rintro e w3 ⟨rfl, rfl⟩
  go_wp2_with fail
  go_quiet (fail)
  go_wp2_with fail
  go_ret2

  refine ⟨?_, _, rfl⟩
  congr 3
  go_num


theorem first_any (s : ByteArray) (w : World) (hne : s.data.toList ≠ []) :
    Calls Tryd.prog 69 #[.string s] w fun e w' => e = .returned (.tuple #[.int .i32 ((firstOf s.data.toList).1 : Int), .int .i64 ((firstOf s.data.toList).2 : Int)]) ∧ ∃ n, w' = w.drewN n := by
  obtain ⟨a, r, hl⟩ := List.exists_cons_of_ne_nil hne
  have ha : s.data.toList[0]? = some a := by rw [hl]; rfl
  have hg : s.data.toList.getD 0 0 = a := by rw [hl]; rfl
  have a256 := UInt8.toNat_lt a
  have key := firstOf_N s.data.toList
  have i1 := fol_iff s.data.toList 1
  have i2 := fol_iff s.data.toList 2
  have i3 := fol_iff s.data.toList 3
  rw [hg] at key
  clear hl hg hne
  unfold firstN at key
  by_cases c1 : a.toNat < 128
  · rw [if_pos c1] at key; rw [key]; exact first_ascii s a w ha c1
  · rw [if_neg c1] at key
    by_cases c2 : a.toNat < 194
    · rw [if_pos c2] at key; rw [key]; exact first_low s a w ha (by omega) c2
    · rw [if_neg c2] at key
      by_cases c3 : a.toNat < 224
      · rw [if_pos c3] at key
        cases f1 : folB s.data.toList 1 with
        | false => rw [if_neg (by rw [i1, f1]; simp)] at key; rw [key]; exact first_C_no s a w ha (by omega) c3 f1
        | true =>
          obtain ⟨b1, e1, g1, q1⟩ := fol_at f1
          rw [if_pos (i1.2 f1), g1] at key; rw [key]; exact first_C s a w ha (by omega) c3 f1 b1 e1 q1
      · rw [if_neg c3] at key
        by_cases c4 : a.toNat < 240
        · rw [if_pos c4] at key
          cases f1 : folB s.data.toList 1 with
          | false => rw [if_neg (by rw [i1, f1]; simp)] at key; rw [key]; exact first_E_no1 s a w ha (by omega) c4 f1
          | true =>
            cases f2 : folB s.data.toList 2 with
            | false => rw [if_neg (by rw [i2, f2]; simp)] at key; rw [key]; exact first_E_no2 s a w ha (by omega) c4 f1 f2
            | true =>
              obtain ⟨b1, e1, g1, q1⟩ := fol_at f1
              obtain ⟨b2, e2, g2, q2⟩ := fol_at f2
              rw [if_pos ⟨i1.2 f1, i2.2 f2⟩, g1, g2] at key
              split at key
              · rename_i hc
                rw [key]
                rcases hc with hc | hc
                · exact first_E_lt s a w ha (by omega) c4 f1 f2 b1 e1 q1 b2 e2 q2 hc
                · exact first_E_sur s a w ha (by omega) c4 f1 f2 b1 e1 q1 b2 e2 q2 hc
              · rename_i hc
                rw [key]
                by_cases hx : 57343 < v3 a.toNat b1.toNat b2.toNat
                · exact first_E_hi s a w ha (by omega) c4 f1 f2 b1 e1 q1 b2 e2 q2 hx
                · exact first_E_lo s a w ha (by omega) c4 f1 f2 b1 e1 q1 b2 e2 q2 (by omega)
        · rw [if_neg c4] at key
          by_cases c5 : a.toNat < 245
          · rw [if_pos c5] at key
            cases f1 : folB s.data.toList 1 with
            | false => rw [if_neg (by rw [i1, f1]; simp)] at key; rw [key]; exact first_F_no1 s a w ha (by omega) c5 f1
            | true =>
              cases f2 : folB s.data.toList 2 with
              | false => rw [if_neg (by rw [i2, f2]; simp)] at key; rw [key]; exact first_F_no2 s a w ha (by omega) c5 f1 f2
              | true =>
                cases f3 : folB s.data.toList 3 with
                | false => rw [if_neg (by rw [i3, f3]; simp)] at key; rw [key]; exact first_F_no3 s a w ha (by omega) c5 f1 f2 f3
                | true =>
                  obtain ⟨b1, e1, g1, q1⟩ := fol_at f1
                  obtain ⟨b2, e2, g2, q2⟩ := fol_at f2
                  obtain ⟨b3, e3, g3, q3⟩ := fol_at f3
                  rw [if_pos ⟨i1.2 f1, i2.2 f2, i3.2 f3⟩, g1, g2, g3] at key
                  split at key
                  · rename_i hc
                    rw [key]
                    rcases hc with hc | hc
                    · exact first_F_lt s a w ha (by omega) c5 f1 f2 f3 b1 e1 q1 b2 e2 q2 b3 e3 q3 hc
                    · exact first_F_gt s a w ha (by omega) c5 f1 f2 f3 b1 e1 q1 b2 e2 q2 b3 e3 q3 hc
                  · rename_i hc
                    rw [key]
                    exact first_F_ok s a w ha (by omega) c5 f1 f2 f3 b1 e1 q1 b2 e2 q2 b3 e3 q3 (by omega)
          · rw [if_neg c5] at key; rw [key]; exact first_high s a w ha (by omega)
end Go.Proofs.YtobnlnkmonaohaaDoor
