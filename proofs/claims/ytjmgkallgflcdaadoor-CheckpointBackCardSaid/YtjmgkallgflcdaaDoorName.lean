/-
  text.control, blank, Name and Plain by contracts.
-/
import Derived.Test.YtjmgkallgflcdaaDoorLines
namespace Go.Proofs.YtjmgkallgflcdaaDoor
open Go.RowKit

def controlB (r : Int) : Bool := decide (r < 32) || (decide (127 ≤ r) && decide (r ≤ 159))
def blankLo : List Int := [32, 133, 160, 5760, 8192, 8232, 8239, 8287, 12288]
def blankHi : List Int := [32, 133, 160, 5760, 8202, 8233, 8239, 8287, 12288]
def blankB (r : Int) : Bool := (blankLo.zip blankHi).any fun p => decide (p.1 ≤ r) && decide (r ≤ p.2)

theorem control_any (r : Int) (w : World) : Calls Tryd.prog 18 #[.int .i32 r] w fun e w' => e = .returned (.bool (controlB r)) ∧ w = w' := by
  by_cases h1 : r < 32
  · go_enter Tryd.func18, Tryd.ntmps18
    go_wp2
    go_ret
    exact ⟨ret_bool (by simp [controlB, h1]), rfl⟩
  · by_cases h2 : 127 ≤ r
    · by_cases h3 : r ≤ 159
      · go_enter Tryd.func18, Tryd.ntmps18
        go_wp2
        go_ret
        exact ⟨ret_bool (by simp [controlB, h2, h3]), rfl⟩
      · go_enter Tryd.func18, Tryd.ntmps18
        go_wp2
        go_ret
        exact ⟨ret_bool (by simp [controlB, h1, h2, h3]), rfl⟩
    · go_enter Tryd.func18, Tryd.ntmps18
      go_wp2
      go_ret
      exact ⟨ret_bool (by simp [controlB, h1]; omega), rfl⟩

theorem blank_at (k : Nat) (h : k < 9) : ∀ w, (Instr.index 71 (.agg blankCells) (.int .i64 (k : Int))).run Tryd.prog w = .ok (.agg #[.int .i32 (blankLo.getD k 0), .int .i32 (blankHi.getD k 0)]) w := by
  rcases (show k = 0 ∨ k = 1 ∨ k = 2 ∨ k = 3 ∨ k = 4 ∨ k = 5 ∨ k = 6 ∨ k = 7 ∨ k = 8 by omega) with rfl | rfl | rfl | rfl | rfl | rfl | rfl | rfl | rfl <;> (intro _; kernel_rfl)
theorem blank_drop (k : Nat) (h : k < 9) : (blankLo.zip blankHi).drop k = (blankLo.getD k 0, blankHi.getD k 0) :: (blankLo.zip blankHi).drop (k + 1) := by
  rcases (show k = 0 ∨ k = 1 ∨ k = 2 ∨ k = 3 ∨ k = 4 ∨ k = 5 ∨ k = 6 ∨ k = 7 ∨ k = 8 by omega) with rfl | rfl | rfl | rfl | rfl | rfl | rfl | rfl | rfl <;> rfl

set_option maxHeartbeats 1000000 in
set_option maxRecDepth 100000 in
theorem blank_any (S : Nat → Addr) (r : Int) (w : World) (hB : Base S w) : Calls Tryd.prog 19 #[.int .i32 r] w fun e w' => e = .returned (.bool (blankB r)) ∧ Below w.heap.size w w' := by
  obtain ⟨tt, fr, hg1⟩ := hB.bl
  clear hB
  go_enter Tryd.func19, Tryd.ntmps19
  go_wp2_with (refine wpList_load_row rfl 71 _ rfl 4 rfl tt _ fr _ hg1 Tryd.underlying71 rfl (by kernel_rfl) ?_)
  clear hg1
  go_loopw [6] (fun i wr => ∃ k : Nat, k ≤ 9 ∧ i = .int .i64 k ∧ Below w.heap.size w wr ∧ blankB r = ((blankLo.zip blankHi).drop k).any fun p => decide (p.1 ≤ r) && decide (r ≤ p.2)) (fun i _ => 9 - (intOf i).toNat)
  case atStart => exact ⟨0, by omega, rfl, Below.refl _ _, rfl⟩
  case round =>
    obtain ⟨k, hk, rfl, hbel, hbl⟩ := hrel
    have HA := Lib.hid hbl
    clear hbl
    have hsz := hbel.size
    by_cases hlt : k < 9
    · have hx := blank_at k hlt
      have HD := Lib.hid (blank_drop k hlt)
      generalize blankLo.getD k 0 = lo at *
      generalize blankHi.getD k 0 = hi at *
      by_cases h1 : lo ≤ r
      · by_cases h2 : r ≤ hi
        · go_wp2_with fail
          go_ret
          exact ⟨ret_bool (by rw [HA.out, HD.out]; simp [h1, h2]), hbel.alloc hsz _⟩
        · go_wp2_with fail
          go_roundw
          case rel => exact ⟨k + 1, by omega, by go_num, hbel.alloc hsz _, by rw [HA.out, HD.out]; simp [h2]⟩
          case measure => simp [intOf]; omega
      · go_wp2_with fail
        go_roundw
        case rel => exact ⟨k + 1, by omega, by go_num, hbel.alloc hsz _, by rw [HA.out, HD.out]; simp [h1]⟩
        case measure => simp [intOf]; omega
    · have hf : blankB r = false := by rw [HA.out, show k = 9 by omega]; rfl
      have HF := Lib.hid hf
      clear hf
      go_wp2_with fail
      go_ret
      exact ⟨ret_bool (by rw [HF.out]), hbel⟩
end Go.Proofs.YtjmgkallgflcdaaDoor
