/-
  text.Hex and text.FromHex by contracts.
-/
import Derived.Test.YtobnlnkmonaohaaDoorHexP
namespace Go.Proofs.YtobnlnkmonaohaaDoor
open Go.RowKit

theorem idx_hex (w : World) (n : Nat) (h : n < 16) (i : Int) (hi : i = (n : Int)) (k : IntKind) : (Instr.index 9 (.string ⟨#[48, 49, 50, 51, 52, 53, 54, 55, 56, 57, 97, 98, 99, 100, 101, 102]⟩) (.int k i)).run Tryd.prog w = .ok (.int .u8 ((L16 n).toNat : Int)) w :=
  run_idx Tryd.underlying9 _ n _ (L16_get n h) i hi k w
theorem idx16_any (c : UInt8) (w : World) : Calls Tryd.prog 45 #[.string ⟨#[48, 49, 50, 51, 52, 53, 54, 55, 56, 57, 97, 98, 99, 100, 101, 102]⟩, .int .u8 (c.toNat : Int)] w fun e w' => e = .returned (.int .i64 (idx16 c)) ∧ w = w' := by
  refine (Tryd.strings_IndexByte _ _ _).mono ?_
  rintro e w' ⟨rfl, rfl⟩
  refine ⟨?_, rfl⟩
  rw [show ((c.toNat : Int)).toNat.toUInt8 = c by simp]
  rfl
theorem drop_at {s : ByteArray} {k : Nat} (h : k < s.size) : ∃ c, s.data.toList[k]? = some c ∧ s.data.toList.drop k = c :: s.data.toList.drop (k + 1) := by
  have hlt : k < s.data.toList.length := by rw [size_list]; exact h
  exact ⟨_, List.getElem?_eq_getElem hlt, List.drop_eq_getElem_cons hlt⟩

def HexRel (s : ByteArray) (w : World) (v : Value) (wr : World) : Prop :=
  ∃ (k : Nat) (acc : List UInt8), k ≤ s.size ∧ v = .int .i64 k ∧ acc.length = 2 * k ∧ Lib.IsBuilder 75 5 w.heap.size w.heap.size (Lib.byteCells acc) wr ∧ Below w.heap.size w wr ∧ acc ++ hexL (s.data.toList.drop k) = hexL s.data.toList

set_option maxHeartbeats 2000000 in
set_option maxRecDepth 100000 in
theorem hex_any (s : ByteArray) (w : World) (hs : 2 * s.size ≤ 140737488355328) :
    Calls Tryd.prog 31 #[.string s] w fun e w' => e = .returned (.string ⟨(hexL s.data.toList).toArray⟩) ∧ Below w.heap.size w w' := by
  have HS := Lib.hid (size_list s)
  go_enter Tryd.func31, Tryd.ntmps31
  go_wp2_with fail
  go_loopw [4] (fun v wr => HexRel s w v wr) (fun v _ => s.size - (intOf v).toNat)
  case atStart => exact ⟨0, [], by omega, rfl, rfl, fresh_builder w, (Below.refl _ _).alloc (Nat.le_refl _) _, rfl⟩
  case round =>
    obtain ⟨k, acc, hk, rfl, hal, hbld, hbel, hacc⟩ := hrel
    have HA := Lib.hid hacc
    clear hacc
    have hwsz := hbel.size
    by_cases hlt : k < s.size
    · obtain ⟨c, hc, hd⟩ := drop_at hlt
      have xk := fun w => run_idx (P := Tryd.prog) Tryd.underlying9 s k c hc (k : Int) rfl .i64 w
      have c256 := UInt8.toNat_lt c
      have e1 := u8_m15 c
      have d0 := fun w => idx_hex w (c.toNat / 16) (by omega) ((c.toNat : Int) / 16) (by omega) .u8
      have d1 := fun w => idx_hex w (c.toNat % 16) (by omega) ((c.toNat : Int) % 16) (by omega) .u8
      have hfin : acc ++ [L16 (c.toNat / 16)] ++ [L16 (c.toNat % 16)] ++ hexL (s.data.toList.drop (k + 1)) = hexL s.data.toList := by
        rw [← HA.out, hd]; simp [hexL]
      have HF := Lib.hid hfin
      clear hc hd hfin
      go_wp2_with fail
      refine (writeByte_any _ _ _ _ _ hbld (by rw [Lib.byteCells_length]; omega) hwsz).mono ?_
      rintro e w1 ⟨rfl, hb1, hl1⟩
      rw [cells_snoc] at hb1
      have hbel1 := hbel.trans hl1
      clear hbel hl1 hbld
      go_wp2_with fail
      refine (writeByte_any _ _ _ _ _ (.inr hb1) (by simp only [Lib.byteCells_length, List.length_append, List.length_cons, List.length_nil]; omega) hbel1.size).mono ?_
      rintro e w2 ⟨rfl, hb2, hl2⟩
      rw [cells_snoc] at hb2
      have hbel2 := hbel1.trans hl2
      clear hbel1 hl2 hb1
      go_wp2_with fail
      go_roundw
      case rel => exact ⟨k + 1, _, by omega, by go_num, by simp; omega, .inr hb2, hbel2, HF.out⟩
      case measure => simp [intOf]; omega
    · have hfin : acc = hexL s.data.toList := by
        rw [← HA.out, List.drop_eq_nil_of_le (by rw [HS.out]; omega)]; simp [hexL]
      have HF := Lib.hid hfin
      clear hfin
      go_wp2_with fail
      refine (Tryd.Builder_String_any _ _ _ _ hbld hwsz).mono ?_
      rintro e w1 ⟨rfl, hl1⟩
      go_wp2_with fail
      go_ret
      exact ⟨ret_str HF.out, hbel.trans hl1⟩

theorem and1_i64 (n : Nat) (h : n < 9223372036854775808) : bits .and .i64 (n : Int) 1 = (n : Int) % 2 := by
  have := and_i64 n 1 h (by omega)
  simpa using this
theorem or4_i64 (x b : Nat) (h : b < 16) (h2 : x < 16) : bits .or .i64 ((x : Int) * 16) (b : Int) = (x : Int) * 16 + (b : Int) := by
  have := or_i64 x b 4 h (by omega)
  simpa using this

def FHexRel (s : ByteArray) (w : World) (vh vi : Value) (wr : World) : Prop :=
  ∃ (k h : Nat) (out : List UInt8), k ≤ s.size ∧ vi = .int .i64 k ∧ vh = .int .i64 h ∧ h < 16 ∧ out.length ≤ k ∧ Lib.IsBuilder 75 5 w.heap.size w.heap.size (Lib.byteCells out) wr ∧ Below w.heap.size w wr ∧
    runH 0 0 [] s.data.toList = runH k h out (s.data.toList.drop k)

set_option maxHeartbeats 2000000 in
set_option maxRecDepth 100000 in
theorem fromHex_any (S : Nat → Addr) (s : ByteArray) (w : World) (hs : s.size ≤ 9223372036854775807) (hB : Base S w) :
    Calls Tryd.prog 28 #[.string s] w (Told S w (.string ⟨(fromHexL s.data.toList).1.toArray⟩) (fromHexL s.data.toList).2.1 (fromHexL s.data.toList).2.2) := by
  have hsz := size_list s
  have HB := Lib.hid hB
  by_cases hbig : 1048576 < s.size
  · have g4 := hB.var 4 (by omega) (by omega)
    simp only [errG, errV] at g4
    have hr : fromHexL s.data.toList = ([], 4, none) := by unfold fromHexL; rw [if_pos (by omega)]
    rw [hr]
    clear hB hr hsz
    go_enter Tryd.func28, Tryd.ntmps28
    go_wp2_with fail
    go_quiet (fail)
    go_wp2_with fail
    go_ret2
    exact limit_told S w (below_drewN (Below.refl _ _) _) _
  · have hr : fromHexL s.data.toList = toldAt [] (endH s.size (runH 0 0 [] s.data.toList)) := by unfold fromHexL; rw [if_neg (by omega), hsz]
    rw [hr]
    have HS := Lib.hid hsz
    clear hr hsz hB
    go_enter Tryd.func28, Tryd.ntmps28
    go_wp2_with fail
    go_loopw [5, 6] (fun vh vi wr => FHexRel s w vh vi wr) (fun _ vi _ => s.size - (intOf vi).toNat)
    case atStart => exact ⟨0, 0, [], by omega, rfl, rfl, by omega, by simp, fresh_builder w, (Below.refl _ _).alloc (Nat.le_refl _) _, rfl⟩
    case round =>
      obtain ⟨k, h, out, hk, rfl, rfl, hh, hol, hbld, hbel, hrun⟩ := hrel
      have HR := Lib.hid hrun
      clear hrun
      have hwsz := hbel.size
      by_cases hlt : k < s.size
      · obtain ⟨c, hc, hd⟩ := drop_at hlt
        have hrun2 := HR.out
        rw [hd, runH_cons] at hrun2
        have HR2 := Lib.hid hrun2
        have xk := fun w => run_idx (P := Tryd.prog) Tryd.underlying9 s k c hc (k : Int) rfl .i64 w
        have hc256 := UInt8.toNat_lt c
        have ek := and1_i64 k (by omega)
        have hib := idx16_bd c
        clear hd hc hrun2
        by_cases hn : idx16 c < 0
        · have hI : ∀ W, Calls Tryd.prog 45 #[.string ⟨#[48, 49, 50, 51, 52, 53, 54, 55, 56, 57, 97, 98, 99, 100, 101, 102]⟩, .int .u8 (c.toNat : Int)] W fun e w' => e = .returned (.int .i64 (-1)) ∧ W = w' := fun W => by have := idx16_any c W; rwa [show idx16 c = -1 by omega] at this
          have HI := Lib.hid hI
          have hfin : toldAt [] (endH s.size (runH 0 0 [] s.data.toList)) = ([], 3, some (k : Int)) := by
            rw [HR2.out, if_pos hn]; rfl
          have HF := Lib.hid hfin
          have HW := Lib.hid (wrong_any S (k : Int) wr (HB.out.below hbel))
          clear hfin hI hn hib
          go_wp2_with (first | (go_at_call 45; refine (HI.out _).mono ?_; rintro e w' ⟨rfl, rfl⟩) | (go_at_call 46; refine HW.out.mono ?_; rintro e w' ⟨rfl, rfl⟩))
          go_ret2
          rw [HF.out]
          exact ⟨_, rfl, wrong_err S k wr, hbel.trans ((wrong_below S k wr).mono hbel.size)⟩
        · obtain ⟨N, hN⟩ : ∃ N : Nat, idx16 c = N := ⟨(idx16 c).toNat, by omega⟩
          have hI : ∀ W, Calls Tryd.prog 45 #[.string ⟨#[48, 49, 50, 51, 52, 53, 54, 55, 56, 57, 97, 98, 99, 100, 101, 102]⟩, .int .u8 (c.toNat : Int)] W fun e w' => e = .returned (.int .i64 (N : Int)) ∧ W = w' := fun W => by have := idx16_any c W; rwa [hN] at this
          have HI := Lib.hid hI
          have hN16 : N < 16 := by omega
          by_cases hk2 : k % 2 = 0
          · have hk2' : (k : Int) % 2 = 0 := by omega
            have hfin : runH 0 0 [] s.data.toList = runH (k + 1) N out (s.data.toList.drop (k + 1)) := by
              rw [HR2.out, if_neg hn, if_pos hk2, hN, Int.toNat_natCast]
            have HF := Lib.hid hfin
            clear hfin hI hn hib hN
            go_wp2_with (first | (go_at_call 45; refine (HI.out _).mono ?_; rintro e w' ⟨rfl, rfl⟩))
            go_roundw
            case rel => exact ⟨k + 1, N, out, by omega, by go_num, rfl, hN16, by omega, hbld, hbel, HF.out⟩
            case measure => simp [intOf]; omega
          · have hk2' : ((k : Int) % 2 == 0) = false := by rw [beq_eq_false_iff_ne]; omega
            have hfin : runH 0 0 [] s.data.toList = runH (k + 1) h (out ++ [byteN (h * 16 + N)]) (s.data.toList.drop (k + 1)) := by
              rw [HR2.out, if_neg hn, if_neg hk2, hN, Int.toNat_natCast]
            have HF := Lib.hid hfin
            have eo := or4_i64 h N hN16 hh
            have h1 : IntKind.u8.wrap ((h : Int) * 16 + (N : Int)) = ((byteN (h * 16 + N)).toNat : Int) := by rw [byteN_val, IntKind.wrap_u8]; omega
            clear hfin hI hn hib hN
            go_wp2_with (first | (go_at_call 45; refine (HI.out _).mono ?_; rintro e w' ⟨rfl, rfl⟩))
            refine (writeByte_any _ _ _ _ _ hbld (by rw [Lib.byteCells_length]; omega) hwsz).mono ?_
            rintro e w1 ⟨rfl, hb1, hl1⟩
            rw [cells_snoc] at hb1
            have hbel1 := hbel.trans hl1
            clear hbel hl1 hbld
            go_wp2_with fail
            go_roundw
            case rel => exact ⟨k + 1, h, _, by omega, by go_num, rfl, hh, by simp; omega, .inr hb1, hbel1, HF.out⟩
            case measure => simp [intOf]; omega
      · have hfin : runH 0 0 [] s.data.toList = .ok out := by
          rw [HR.out, List.drop_eq_nil_of_le (by rw [size_list]; omega), runH]
        have HF := Lib.hid hfin
        have em := and1_i64 s.size (by omega)
        clear hfin
        by_cases h2 : s.size % 2 = 0
        · have h2' : ((s.size : Int) % 2 != 0) = false := by simp; omega
          go_wp2_with fail
          refine (Tryd.Builder_String_any _ _ _ _ hbld hwsz).mono ?_
          rintro e w1 ⟨rfl, hl1⟩
          go_wp2_with fail
          go_ret2
          rw [HF.out]
          unfold endH
          simp only []
          rw [if_neg (by omega)]
          exact ⟨_, rfl, ErrAt.nil S _, hbel.trans hl1⟩
        · have h2' : ((s.size : Int) % 2 != 0) = true := by rw [bne_iff_ne]; omega
          have HW := Lib.hid (wrong_any S (s.size : Int) wr (HB.out.below hbel))
          go_wp2_with (go_at_call 46; refine HW.out.mono ?_; rintro e w' ⟨rfl, rfl⟩)
          go_ret2
          rw [HF.out]
          unfold endH
          simp only []
          rw [if_pos (by omega)]
          exact ⟨_, rfl, wrong_err S s.size wr, hbel.trans ((wrong_below S s.size wr).mono hbel.size)⟩
end Go.Proofs.YtobnlnkmonaohaaDoor
