/-
  text.wrong and text.FromDecimal by contracts.
-/
import Derived.Test.YtlahdjdbbfjadaaGreatDoorB64
namespace Go.Proofs.YtlahdjdbbfjadaaGreatDoor
open Go.RowKit

/-- A number's digits, read from place i on: the value so far is n, the first byte of all is f; error: where it goes wrong. -/
def decRun (f : UInt8) : Nat → Nat → List UInt8 → Except Nat Nat
  | _, n, [] => .ok n
  | i, n, c :: r => if c.toNat < 48 ∨ 57 < c.toNat ∨ (i = 1 ∧ f = 48) ∨ (18446744073709551615 - (c.toNat - 48)) / 10 < n then .error i else decRun f (i + 1) (10 * n + (c.toNat - 48)) r
/-- What is told of a text that goes wrong at a place, or not: value, number of the error, place. -/
def toldAt {α : Type} (z : α) : Except Nat α → α × Nat × Option Int
  | .ok x => (x, 0, none)
  | .error i => (z, 3, some (i : Int))
/-- FromDecimal. -/
def fromDec (l : List UInt8) : Nat × Nat × Option Int :=
  if 1048576 < l.length then (0, 4, none) else
  match l with
  | [] => (0, 3, some 0)
  | f :: r => toldAt 0 (decRun f 0 0 (f :: r))

/-- A Fault over ErrInput, in a block of its own. -/
theorem wrong_any (S : Nat → Addr) (z : Int) (w : World) (hB : Base S w) :
    Calls Tryz.prog 147 #[.int .i64 z] w fun e w' => e = .returned (.iface 217 (.pointer (some ⟨w.heap.size, 0, none⟩))) ∧ w.alloc (.cells #[errV S 3, .int .i64 z] 221) = w' := by
  have g := hB.var 3 (by omega) (by omega)
  simp only [errG, errV] at g ⊢
  clear hB
  go_enter Tryz.func147, Tryz.ntmps147
  go_wp2
  go_ret
  exact ⟨rfl, rfl⟩
theorem wrong_err (S : Nat → Addr) (z : Int) (w : World) : ErrAt S (w.alloc (.cells #[errV S 3, .int .i64 z] 221)) (.iface 217 (.pointer (some ⟨w.heap.size, 0, none⟩))) 3 (some z) :=
  .inr (.inr ⟨by omega, by omega, _, z, rfl, heap_alloc_new w _, rfl⟩)
theorem wrong_below (S : Nat → Addr) (z : Int) (w : World) : Below w.heap.size w (w.alloc (.cells #[errV S 3, .int .i64 z] 221)) := (Below.refl _ _).alloc (Nat.le_refl _) _

/-- What a function says that answers a value and an error. -/
def Told (S : Nat → Addr) (w : World) (v : Value) (c : Nat) (p : Option Int) (e : Ending) (w' : World) : Prop :=
  ∃ ev, e = .returned (.tuple #[v, ev]) ∧ ErrAt S w' ev c p ∧ Below w.heap.size w w'

theorem limit_told (S : Nat → Addr) (w : World) {w' : World} (hb : Below w.heap.size w w') (v : Value) : Told S w v 4 none (.returned (.tuple #[v, errV S 4])) w' :=
  ⟨_, rfl, .inr (.inl ⟨by omega, by omega, rfl, rfl⟩), hb⟩

set_option maxHeartbeats 1000000 in
theorem fromDecimal_any (S : Nat → Addr) (s : ByteArray) (w : World) (hs : s.size ≤ 9223372036854775807) (hB : Base S w) :
    Calls Tryz.prog 131 #[.string s] w (Told S w (.int .u64 ((fromDec s.data.toList).1 : Int)) (fromDec s.data.toList).2.1 (fromDec s.data.toList).2.2) := by
  have hsz := size_list s
  have HB := Lib.hid hB
  by_cases hbig : 1048576 < s.size
  · have g4 := hB.var 4 (by omega) (by omega)
    simp only [errG, errV] at g4
    have hr : fromDec s.data.toList = (0, 4, none) := by unfold fromDec; rw [if_pos (by omega)]
    rw [hr]
    clear hB hr hsz
    go_enter Tryz.func131, Tryz.ntmps131
    go_wp2_with fail
    go_quiet (fail)
    go_wp2_with fail
    go_ret2
    exact limit_told S w (below_drewN (Below.refl _ _) _) _
  · match htl : s.data.toList with
    | [] =>
      rw [htl] at hsz
      have hs0 : s.size = 0 := by simpa using hsz.symm
      have hl0 : s.toList = [] := by rw [ByteArray.toList_eq]; exact htl
      have hr : fromDec [] = (0, 3, some 0) := by simp [fromDec]
      rw [hr]
      clear hsz htl hr hbig hB
      go_enter Tryz.func131, Tryz.ntmps131
      go_wp2_with (go_at_call 147; refine (wrong_any S 0 _ HB.out).mono ?_; rintro e w' ⟨rfl, rfl⟩)
      go_ret2
      exact ⟨_, rfl, wrong_err S 0 w, wrong_below S 0 w⟩
    | f :: r =>
      have hne : s.toList.isEmpty = false := by rw [ByteArray.toList_eq, htl]; rfl
      have hne2 : ¬ s.toList = [] := by rw [ByteArray.toList_eq, htl]; simp
      have hr : fromDec (f :: r) = toldAt 0 (decRun f 0 0 s.data.toList) := by
        rw [htl] at hsz
        unfold fromDec; rw [if_neg (by omega), htl]
      rw [hr]
      have x0 := fun w => run_idx (P := Tryz.prog) Tryz.underlying9 s 0 f (by rw [htl]; rfl) 0 rfl .i64 w
      have HS := Lib.hid hsz
      have hf := UInt8.toNat_lt f
      clear hsz htl hr hB
      go_enter Tryz.func131, Tryz.ntmps131
      go_wp2_with fail
      go_loop [4, 5] (fun n i => ∃ k N : Nat, k ≤ s.size ∧ N ≤ 18446744073709551615 ∧ i = .int .i64 k ∧ n = .int .u64 N ∧ decRun f 0 0 s.data.toList = decRun f k N (s.data.toList.drop k)) (fun _ i => s.size - (intOf i).toNat)
      case atStart => exact ⟨0, 0, by omega, by omega, rfl, rfl, rfl⟩
      case round =>
        obtain ⟨k, N, hk, hN, rfl, rfl, hrun⟩ := hrel
        have HR := Lib.hid hrun
        clear hrun
        by_cases hlt : k < s.size
        · obtain ⟨c, hc⟩ : ∃ c, s.data.toList[k]? = some c := ⟨_, List.getElem?_eq_getElem (by rw [size_list]; exact hlt)⟩
          have hd : s.data.toList.drop k = c :: s.data.toList.drop (k + 1) := by
            rw [List.drop_eq_getElem_cons (by rw [size_list]; exact hlt)]
            congr 1
            rw [List.getElem?_eq_getElem (by rw [size_list]; exact hlt)] at hc
            exact Option.some.inj hc
          have HD := Lib.hid hd
          have xk := fun w => run_idx (P := Tryz.prog) Tryz.underlying9 s k c hc (k : Int) rfl .i64 w
          have hc256 := UInt8.toNat_lt c
          clear hd hc
          by_cases hbad : c.toNat < 48 ∨ 57 < c.toNat ∨ (k = 1 ∧ f = 48) ∨ (18446744073709551615 - (c.toNat - 48)) / 10 < N
          · have hfin : toldAt 0 (decRun f 0 0 s.data.toList) = (0, 3, some (k : Int)) := by
              rw [HR.out, HD.out, decRun, if_pos hbad]; rfl
            have HF := Lib.hid hfin
            clear hfin
            by_cases hc1 : c.toNat < 48
            · clear hbad
              have hc1' : (c.toNat : Int) < 48 := by omega
              go_wp2_with (go_at_call 147; refine (wrong_any S k _ HB.out).mono ?_; rintro e w' ⟨rfl, rfl⟩)
              go_ret2
              rw [HF.out]
              exact ⟨_, rfl, wrong_err S k w, wrong_below S k w⟩
            · by_cases hc2 : 57 < c.toNat
              · clear hbad
                have hc2' : (57 : Int) < c.toNat := by omega
                go_wp2_with (go_at_call 147; refine (wrong_any S k _ HB.out).mono ?_; rintro e w' ⟨rfl, rfl⟩)
                go_ret2
                rw [HF.out]
                exact ⟨_, rfl, wrong_err S k w, wrong_below S k w⟩
              · have hc1' : (48 : Int) ≤ c.toNat := by omega
                have hc2' : (c.toNat : Int) ≤ 57 := by omega
                by_cases hk1 : k = 1
                · subst hk1
                  have x1 : ∀ w, (Instr.index 9 (.string s) (.int .i64 1)).run Tryz.prog w = .ok (.int .u8 (c.toNat : Int)) w := xk
                  clear xk
                  by_cases hf48 : f = 48
                  · subst hf48
                    clear hbad
                    go_wp2_with (go_at_call 147; refine (wrong_any S 1 _ HB.out).mono ?_; rintro e w' ⟨rfl, rfl⟩)
                    go_ret2
                    rw [HF.out]
                    exact ⟨_, rfl, wrong_err S 1 w, wrong_below S 1 w⟩
                  · have h3' : ((f.toNat : Int) == 48) = false := by
                      rw [beq_eq_false_iff_ne]; intro e; exact hf48 (UInt8.toNat_inj.1 (by simpa using (by omega : f.toNat = 48)))
                    have h4 : (18446744073709551615 - ((c.toNat : Int) - 48)) / 10 < (N : Int) := by
                      rcases hbad with h | h | h | h
                      · exact absurd h hc1
                      · exact absurd h hc2
                      · exact absurd h.2 hf48
                      · omega
                    clear hbad
                    go_wp2_with (go_at_call 147; refine (wrong_any S 1 _ HB.out).mono ?_; rintro e w' ⟨rfl, rfl⟩)
                    go_ret2
                    rw [HF.out]
                    exact ⟨_, rfl, wrong_err S 1 w, wrong_below S 1 w⟩
                · have h4 : (18446744073709551615 - ((c.toNat : Int) - 48)) / 10 < (N : Int) := by
                    rcases hbad with h | h | h | h
                    · exact absurd h hc1
                    · exact absurd h hc2
                    · exact absurd h.1 hk1
                    · omega
                  clear hbad
                  go_wp2_with (go_at_call 147; refine (wrong_any S k _ HB.out).mono ?_; rintro e w' ⟨rfl, rfl⟩)
                  go_ret2
                  rw [HF.out]
                  exact ⟨_, rfl, wrong_err S k w, wrong_below S k w⟩
          · have hfin : decRun f 0 0 s.data.toList = decRun f (k + 1) (10 * N + (c.toNat - 48)) (s.data.toList.drop (k + 1)) := by
              rw [HR.out, HD.out, decRun, if_neg hbad]
            have HF := Lib.hid hfin
            have h1 : (48 : Int) ≤ c.toNat := by omega
            have h2 : (c.toNat : Int) ≤ 57 := by omega
            have h4 : (N : Int) ≤ (18446744073709551615 - ((c.toNat : Int) - 48)) / 10 := by omega
            have h3 : k = 1 → ((f.toNat : Int) == 48) = false := fun hk1 => by
              rw [beq_eq_false_iff_ne]; intro e; exact hbad (.inr (.inr (.inl ⟨hk1, UInt8.toNat_inj.1 (by simpa using (by omega : f.toNat = 48))⟩)))
            by_cases hk1 : k = 1
            · have h3' := h3 hk1
              subst hk1
              have x1 : ∀ w, (Instr.index 9 (.string s) (.int .i64 1)).run Tryz.prog w = .ok (.int .u8 (c.toNat : Int)) w := xk
              clear h3 hfin hbad xk
              go_wp2_with fail
              go_round
              case rel => exact ⟨1 + 1, 10 * N + (c.toNat - 48), by omega, by omega, by go_num, by go_num, HF.out⟩
              case measure => simp [intOf]; omega
            · clear h3 hfin hbad
              go_wp2_with fail
              go_round
              case rel => exact ⟨k + 1, 10 * N + (c.toNat - 48), by omega, by omega, by go_num, by go_num, HF.out⟩
              case measure => simp [intOf]; omega
        · have hfin : decRun f 0 0 s.data.toList = .ok N := by
            rw [HR.out, List.drop_eq_nil_of_le (by rw [size_list]; omega), decRun]
          have HF := Lib.hid hfin
          clear hfin
          go_wp2_with fail
          go_ret2
          rw [HF.out]
          exact ⟨_, rfl, ErrAt.nil S w, Below.refl _ _⟩
end Go.Proofs.YtlahdjdbbfjadaaGreatDoor
