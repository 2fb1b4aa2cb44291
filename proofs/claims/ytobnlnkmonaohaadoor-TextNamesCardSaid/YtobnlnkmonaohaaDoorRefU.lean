/-
  cartularyref03: follows, Control, Blank by contracts.
-/
import Derived.Test.YtobnlnkmonaohaaDoorName2
import Derived.Test.YtobnlnkmonaohaaDoorAlive
namespace Go.Proofs.YtobnlnkmonaohaaDoor
open Go.RowKit

theorem refControl_any (r : Int) (w : World) : Calls Tryd.prog 70 #[.int .i32 r] w fun e w' => e = .returned (.bool (controlB r)) ∧ w = w' := by
  by_cases h1 : r < 32
  · go_enter Tryd.func70, Tryd.ntmps70
    go_wp2
    go_ret
    exact ⟨ret_bool (by simp [controlB, h1]), rfl⟩
  · by_cases h2 : 127 ≤ r
    · by_cases h3 : r ≤ 159
      · go_enter Tryd.func70, Tryd.ntmps70
        go_wp2
        go_ret
        exact ⟨ret_bool (by simp [controlB, h2, h3]), rfl⟩
      · go_enter Tryd.func70, Tryd.ntmps70
        go_wp2
        go_ret
        exact ⟨ret_bool (by simp [controlB, h1, h2, h3]), rfl⟩
    · go_enter Tryd.func70, Tryd.ntmps70
      go_wp2
      go_ret
      exact ⟨ret_bool (by simp [controlB, h1]; omega), rfl⟩
theorem refBlank_32 (w : World) : Calls Tryd.prog 71 #[.int .i32 32] w fun e w' => e = .returned (.bool true) ∧ w = w' := by
  go_enter Tryd.func71, Tryd.ntmps71
  go_wp2
  go_ret
  exact ⟨ret_bool (by first | rfl | (simp; omega) | simp_all), rfl⟩
theorem refBlank_133 (w : World) : Calls Tryd.prog 71 #[.int .i32 133] w fun e w' => e = .returned (.bool true) ∧ w = w' := by
  go_enter Tryd.func71, Tryd.ntmps71
  go_wp2
  go_ret
  exact ⟨ret_bool (by first | rfl | (simp; omega) | simp_all), rfl⟩
theorem refBlank_160 (w : World) : Calls Tryd.prog 71 #[.int .i32 160] w fun e w' => e = .returned (.bool true) ∧ w = w' := by
  go_enter Tryd.func71, Tryd.ntmps71
  go_wp2
  go_ret
  exact ⟨ret_bool (by first | rfl | (simp; omega) | simp_all), rfl⟩
theorem refBlank_5760 (w : World) : Calls Tryd.prog 71 #[.int .i32 5760] w fun e w' => e = .returned (.bool true) ∧ w = w' := by
  go_enter Tryd.func71, Tryd.ntmps71
  go_wp2
  go_ret
  exact ⟨ret_bool (by first | rfl | (simp; omega) | simp_all), rfl⟩
theorem refBlank_8232 (w : World) : Calls Tryd.prog 71 #[.int .i32 8232] w fun e w' => e = .returned (.bool true) ∧ w = w' := by
  go_enter Tryd.func71, Tryd.ntmps71
  go_wp2
  go_ret
  exact ⟨ret_bool (by first | rfl | (simp; omega) | simp_all), rfl⟩
theorem refBlank_8233 (w : World) : Calls Tryd.prog 71 #[.int .i32 8233] w fun e w' => e = .returned (.bool true) ∧ w = w' := by
  go_enter Tryd.func71, Tryd.ntmps71
  go_wp2
  go_ret
  exact ⟨ret_bool (by first | rfl | (simp; omega) | simp_all), rfl⟩
theorem refBlank_8239 (w : World) : Calls Tryd.prog 71 #[.int .i32 8239] w fun e w' => e = .returned (.bool true) ∧ w = w' := by
  go_enter Tryd.func71, Tryd.ntmps71
  go_wp2
  go_ret
  exact ⟨ret_bool (by first | rfl | (simp; omega) | simp_all), rfl⟩
theorem refBlank_8287 (w : World) : Calls Tryd.prog 71 #[.int .i32 8287] w fun e w' => e = .returned (.bool true) ∧ w = w' := by
  go_enter Tryd.func71, Tryd.ntmps71
  go_wp2
  go_ret
  exact ⟨ret_bool (by first | rfl | (simp; omega) | simp_all), rfl⟩
theorem refBlank_12288 (w : World) : Calls Tryd.prog 71 #[.int .i32 12288] w fun e w' => e = .returned (.bool true) ∧ w = w' := by
  go_enter Tryd.func71, Tryd.ntmps71
  go_wp2
  go_ret
  exact ⟨ret_bool (by first | rfl | (simp; omega) | simp_all), rfl⟩
set_option maxHeartbeats 1000000 in
theorem refBlank_mid (r : Int) (w : World) (h1 : 8192 ≤ r) (h2 : r ≤ 8202) : Calls Tryd.prog 71 #[.int .i32 r] w fun e w' => e = .returned (.bool true) ∧ w = w' := by
  have n32 : (r == 32) = false := by rw [beq_eq_false_iff_ne]; omega
  have n133 : (r == 133) = false := by rw [beq_eq_false_iff_ne]; omega
  have n160 : (r == 160) = false := by rw [beq_eq_false_iff_ne]; omega
  have n5760 : (r == 5760) = false := by rw [beq_eq_false_iff_ne]; omega
  have n8232 : (r == 8232) = false := by rw [beq_eq_false_iff_ne]; omega
  have n8233 : (r == 8233) = false := by rw [beq_eq_false_iff_ne]; omega
  have n8239 : (r == 8239) = false := by rw [beq_eq_false_iff_ne]; omega
  have n8287 : (r == 8287) = false := by rw [beq_eq_false_iff_ne]; omega
  have n12288 : (r == 12288) = false := by rw [beq_eq_false_iff_ne]; omega
  go_enter Tryd.func71, Tryd.ntmps71
  go_wp2
  go_ret
  exact ⟨ret_bool (by first | rfl | (simp; omega) | simp_all), rfl⟩
set_option maxHeartbeats 1000000 in
theorem refBlank_low (r : Int) (w : World) (h1 : r < 8192) (h32 : r ≠ 32) (h133 : r ≠ 133) (h160 : r ≠ 160) (h5760 : r ≠ 5760) (h8232 : r ≠ 8232) (h8233 : r ≠ 8233) (h8239 : r ≠ 8239) (h8287 : r ≠ 8287) (h12288 : r ≠ 12288) : Calls Tryd.prog 71 #[.int .i32 r] w fun e w' => e = .returned (.bool false) ∧ w = w' := by
  have n32 : (r == 32) = false := by rw [beq_eq_false_iff_ne]; omega
  have n133 : (r == 133) = false := by rw [beq_eq_false_iff_ne]; omega
  have n160 : (r == 160) = false := by rw [beq_eq_false_iff_ne]; omega
  have n5760 : (r == 5760) = false := by rw [beq_eq_false_iff_ne]; omega
  have n8232 : (r == 8232) = false := by rw [beq_eq_false_iff_ne]; omega
  have n8233 : (r == 8233) = false := by rw [beq_eq_false_iff_ne]; omega
  have n8239 : (r == 8239) = false := by rw [beq_eq_false_iff_ne]; omega
  have n8287 : (r == 8287) = false := by rw [beq_eq_false_iff_ne]; omega
  have n12288 : (r == 12288) = false := by rw [beq_eq_false_iff_ne]; omega
  go_enter Tryd.func71, Tryd.ntmps71
  go_wp2
  go_ret
  exact ⟨ret_bool (by first | rfl | (simp; omega) | simp_all), rfl⟩
set_option maxHeartbeats 1000000 in
theorem refBlank_high (r : Int) (w : World) (h0 : 8192 ≤ r) (h1 : 8202 < r) (h32 : r ≠ 32) (h133 : r ≠ 133) (h160 : r ≠ 160) (h5760 : r ≠ 5760) (h8232 : r ≠ 8232) (h8233 : r ≠ 8233) (h8239 : r ≠ 8239) (h8287 : r ≠ 8287) (h12288 : r ≠ 12288) : Calls Tryd.prog 71 #[.int .i32 r] w fun e w' => e = .returned (.bool false) ∧ w = w' := by
  have n32 : (r == 32) = false := by rw [beq_eq_false_iff_ne]; omega
  have n133 : (r == 133) = false := by rw [beq_eq_false_iff_ne]; omega
  have n160 : (r == 160) = false := by rw [beq_eq_false_iff_ne]; omega
  have n5760 : (r == 5760) = false := by rw [beq_eq_false_iff_ne]; omega
  have n8232 : (r == 8232) = false := by rw [beq_eq_false_iff_ne]; omega
  have n8233 : (r == 8233) = false := by rw [beq_eq_false_iff_ne]; omega
  have n8239 : (r == 8239) = false := by rw [beq_eq_false_iff_ne]; omega
  have n8287 : (r == 8287) = false := by rw [beq_eq_false_iff_ne]; omega
  have n12288 : (r == 12288) = false := by rw [beq_eq_false_iff_ne]; omega
  go_enter Tryd.func71, Tryd.ntmps71
  go_wp2
  go_ret
  exact ⟨ret_bool (by first | rfl | (simp; omega) | simp_all), rfl⟩
theorem blankB_eq (r : Int) : blankB r = (decide (r = 32) || (decide (r = 133) || (decide (r = 160) || (decide (r = 5760) || (decide (8192 ≤ r) && decide (r ≤ 8202) || (decide (r = 8232) || (decide (r = 8233) || (decide (r = 8239) || (decide (r = 8287) || decide (r = 12288)))))))))) := by
  rw [Bool.eq_iff_iff]
  simp [blankB, blankLo, blankHi]
  omega
theorem refBlank_any (r : Int) (w : World) : Calls Tryd.prog 71 #[.int .i32 r] w fun e w' => e = .returned (.bool (blankB r)) ∧ w = w' := by
  by_cases h32 : r = 32
  · subst h32; exact (refBlank_32 w).mono fun e w' h => ⟨h.1.trans (ret_bool (by decide)), h.2⟩
  by_cases h133 : r = 133
  · subst h133; exact (refBlank_133 w).mono fun e w' h => ⟨h.1.trans (ret_bool (by decide)), h.2⟩
  by_cases h160 : r = 160
  · subst h160; exact (refBlank_160 w).mono fun e w' h => ⟨h.1.trans (ret_bool (by decide)), h.2⟩
  by_cases h5760 : r = 5760
  · subst h5760; exact (refBlank_5760 w).mono fun e w' h => ⟨h.1.trans (ret_bool (by decide)), h.2⟩
  by_cases h8232 : r = 8232
  · subst h8232; exact (refBlank_8232 w).mono fun e w' h => ⟨h.1.trans (ret_bool (by decide)), h.2⟩
  by_cases h8233 : r = 8233
  · subst h8233; exact (refBlank_8233 w).mono fun e w' h => ⟨h.1.trans (ret_bool (by decide)), h.2⟩
  by_cases h8239 : r = 8239
  · subst h8239; exact (refBlank_8239 w).mono fun e w' h => ⟨h.1.trans (ret_bool (by decide)), h.2⟩
  by_cases h8287 : r = 8287
  · subst h8287; exact (refBlank_8287 w).mono fun e w' h => ⟨h.1.trans (ret_bool (by decide)), h.2⟩
  by_cases h12288 : r = 12288
  · subst h12288; exact (refBlank_12288 w).mono fun e w' h => ⟨h.1.trans (ret_bool (by decide)), h.2⟩
  have hb : (8192 ≤ r ∧ r ≤ 8202) → blankB r = true := fun h => by rw [blankB_eq]; simp; omega
  have hn : ¬ (8192 ≤ r ∧ r ≤ 8202) → blankB r = false := fun h => by rw [Bool.eq_false_iff, blankB_eq]; simp; omega
  by_cases h1 : r < 8192
  · rw [hn (by omega)]; exact refBlank_low r w h1 h32 h133 h160 h5760 h8232 h8233 h8239 h8287 h12288
  · by_cases h2 : r ≤ 8202
    · rw [hb (by omega)]; exact refBlank_mid r w (by omega) h2
    · rw [hn (by omega)]; exact refBlank_high r w (by omega) (by omega) h32 h133 h160 h5760 h8232 h8233 h8239 h8287 h12288

/-- A byte that goes on. -/
def folB (l : List UInt8) (k : Nat) : Bool := decide (k < l.length) && decide ((l.getD k 0).toNat / 64 = 2)
set_option maxHeartbeats 1000000 in
theorem follows_any (s : ByteArray) (k : Nat) (w : World) :
    Calls Tryd.prog 82 #[.string s, .int .i64 (k : Int)] w fun e w' => e = .returned (.bool (folB s.data.toList k)) ∧ w = w' := by
  have hsz := size_list s
  by_cases h1 : k < s.size
  · obtain ⟨c, hc⟩ : ∃ c, s.data.toList[k]? = some c := ⟨_, List.getElem?_eq_getElem (by omega)⟩
    have hg : s.data.toList.getD k 0 = c := by simp [List.getD, hc]
    have x0 := fun w => run_idx (P := Tryd.prog) Tryd.underlying9 s k c hc (k : Int) rfl .i64 w
    have hc256 := UInt8.toNat_lt c
    have hr : folB s.data.toList k = decide (c.toNat / 64 = 2) := by unfold folB; rw [hg, decide_eq_true (by omega)]; rfl
    rw [hr]
    clear hc hg hr hsz
    by_cases h2 : 128 ≤ c.toNat
    · by_cases h3 : c.toNat ≤ 191
      · rw [decide_eq_true (by omega)]
        go_enter Tryd.func82, Tryd.ntmps82
        go_wp2
        go_ret
        exact ⟨ret_bool (by first | rfl | (simp; omega) | simp_all), rfl⟩
      · rw [decide_eq_false (by omega)]
        go_enter Tryd.func82, Tryd.ntmps82
        go_wp2
        go_ret
        exact ⟨ret_bool (by first | rfl | (simp; omega) | simp_all), rfl⟩
    · rw [decide_eq_false (by omega)]
      go_enter Tryd.func82, Tryd.ntmps82
      go_wp2
      go_ret
      exact ⟨ret_bool (by first | rfl | (simp; omega) | simp_all), rfl⟩
  · have hr : folB s.data.toList k = false := by unfold folB; rw [decide_eq_false (by omega)]; rfl
    rw [hr]
    clear hr hsz
    go_enter Tryd.func82, Tryd.ntmps82
    go_wp2
    go_ret
    exact ⟨ret_bool (by first | rfl | (simp; omega) | simp_all), rfl⟩
end Go.Proofs.YtobnlnkmonaohaaDoor
