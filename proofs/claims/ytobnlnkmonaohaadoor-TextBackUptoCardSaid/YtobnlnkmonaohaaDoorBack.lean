/-
  PROVED: cartularylaw03.TextBack returns true, whatever the two texts and the number (the tied card of its row, in its second form). Conditions: those of the row: the arguments are together of bulk at most 1048576; the listed package-level variables hold what the program lays.
-/
import Derived.Test.YtobnlnkmonaohaaDoorAlive
import Derived.Test.YtobnlnkmonaohaaDoorBackP
import Derived.Test.YtobnlnkmonaohaaDoorHex
import Derived.Test.YtobnlnkmonaohaaDoorBackFrame
import Derived.Deep.Cut
namespace Go.Proofs.YtobnlnkmonaohaaDoor
open Go.RowKit

theorem bytes_back (s : ByteArray) : (⟨s.data.toList.toArray⟩ : ByteArray) = s := by cases s; simp
theorem mk_size (l : List UInt8) : (⟨l.toArray⟩ : ByteArray).size = l.length := by
  show l.toArray.size = l.length
  simp
/-- A reading that is refused: its error is not nil. -/
def Refused (w : World) (e : Ending) (w' : World) : Prop := ∃ v T x, e = .returned (.tuple #[v, .iface T x]) ∧ Below w.heap.size w w'
def Reads (v : Value) (w : World) (e : Ending) (w' : World) : Prop := e = .returned (.tuple #[v, .nilIface]) ∧ Below w.heap.size w w'
theorem refused_of {S : Nat → Addr} {w : World} {v : Value} {c : Nat} {p : Option Int} (hc : c ≠ 0) {e : Ending} {w' : World} (ht : Told S w v c p e w') : Refused w e w' := by
  obtain ⟨ev, rfl, he, hb⟩ := ht
  rcases he with ⟨_, h, _⟩ | ⟨_, _, rfl, _⟩ | ⟨_, _, b, z, rfl, _, _⟩
  · exact absurd h hc
  · exact ⟨v, _, _, rfl, hb⟩
  · exact ⟨v, _, _, rfl, hb⟩
theorem reads_of {S : Nat → Addr} {w : World} {v : Value} {c : Nat} {p : Option Int} (hc : c = 0) {e : Ending} {w' : World} (ht : Told S w v c p e w') : Reads v w e w' := by
  obtain ⟨ev, rfl, he, hb⟩ := ht
  rcases he with ⟨rfl, _, _⟩ | ⟨h, _⟩ | ⟨h, _⟩
  · exact ⟨rfl, hb⟩
  · omega
  · omega
theorem b64_there (S : Nat → Addr) (t : ByteArray) (ht : t.size ≤ 1048576) (h : (fromB64 t.data.toList).2.1 = 0) : ∃ xb : ByteArray, (∀ W, Base S W → Calls Tryd.prog 13 #[.string t] W (Reads (.string xb) W)) ∧
    ∀ W, Calls Tryd.prog 15 #[.string xb] W fun e w' => e = .returned (.string t) ∧ Below W.heap.size W w' := by
  obtain ⟨x, c, p, hx⟩ : ∃ x c p, fromB64 t.data.toList = (x, c, p) := ⟨_, _, _, rfl⟩
  rw [hx] at h
  obtain rfl : c = 0 := h
  have hb := fromB64_back t.data.toList x p hx
  have hl := congrArg List.length hb
  rw [b64_length, size_list] at hl
  refine ⟨⟨x.toArray⟩, fun W hB => ?_, fun W => ?_⟩
  · have := fromBase64_any S t W (by omega) hB
    rw [hx] at this
    exact this.mono fun _ _ ht => reads_of rfl ht
  · have := base64_any ⟨x.toArray⟩ W (by rw [mk_size]; omega)
    simp only [] at this
    rw [hb, bytes_back] at this
    exact this
theorem b64_not (S : Nat → Addr) (t : ByteArray) (ht : t.size ≤ 1048576) (h : (fromB64 t.data.toList).2.1 ≠ 0) (W : World) (hB : Base S W) : Calls Tryd.prog 13 #[.string t] W (Refused W) :=
  (fromBase64_any S t W (by omega) hB).mono fun _ _ ht => refused_of h ht
theorem hex_there (S : Nat → Addr) (t : ByteArray) (ht : t.size ≤ 1048576) (h : (fromHexL t.data.toList).2.1 = 0) : ∃ xb : ByteArray, (∀ W, Base S W → Calls Tryd.prog 28 #[.string t] W (Reads (.string xb) W)) ∧
    ∀ W, Calls Tryd.prog 31 #[.string xb] W fun e w' => e = .returned (.string t) ∧ Below W.heap.size W w' := by
  obtain ⟨x, c, p, hx⟩ : ∃ x c p, fromHexL t.data.toList = (x, c, p) := ⟨_, _, _, rfl⟩
  rw [hx] at h
  obtain rfl : c = 0 := h
  have hb := fromHex_back t.data.toList x p hx
  have hl := congrArg List.length hb
  rw [hexL_length, size_list] at hl
  refine ⟨⟨x.toArray⟩, fun W hB => ?_, fun W => ?_⟩
  · have := fromHex_any S t W (by omega) hB
    rw [hx] at this
    exact this.mono fun _ _ ht => reads_of rfl ht
  · have := hex_any ⟨x.toArray⟩ W (by rw [mk_size]; omega)
    simp only [] at this
    rw [hb, bytes_back] at this
    exact this
theorem hex_not (S : Nat → Addr) (t : ByteArray) (ht : t.size ≤ 1048576) (h : (fromHexL t.data.toList).2.1 ≠ 0) (W : World) (hB : Base S W) : Calls Tryd.prog 28 #[.string t] W (Refused W) :=
  (fromHex_any S t W (by omega) hB).mono fun _ _ ht => refused_of h ht
theorem dec_there (S : Nat → Addr) (t : ByteArray) (ht : t.size ≤ 1048576) (h : (fromDec t.data.toList).2.1 = 0) : ∃ z : Nat, (∀ W, Base S W → Calls Tryd.prog 29 #[.string t] W (Reads (.int .u64 (z : Int)) W)) ∧
    ∀ W, Tab W → Calls Tryd.prog 43 #[.int .u64 (z : Int)] W fun e w' => e = .returned (.string t) ∧ Below W.heap.size W w' := by
  obtain ⟨z, c, p, hx⟩ : ∃ z c p, fromDec t.data.toList = (z, c, p) := ⟨_, _, _, rfl⟩
  have hle := fromDec_le t.data.toList
  rw [hx] at h hle
  obtain rfl : c = 0 := h
  have hb := fromDec_back t.data.toList z p hx
  refine ⟨z, fun W hB => ?_, fun W hT => ?_⟩
  · have := fromDecimal_any S t W (by omega) hB
    rw [hx] at this
    exact this.mono fun _ _ ht => reads_of rfl ht
  · have := decimal_any z hle W hT
    rw [hb, bytes_back] at this
    exact this
theorem dec_not (S : Nat → Addr) (t : ByteArray) (ht : t.size ≤ 1048576) (h : (fromDec t.data.toList).2.1 ≠ 0) (W : World) (hB : Base S W) : Calls Tryd.prog 29 #[.string t] W (Refused W) :=
  (fromDecimal_any S t W (by omega) hB).mono fun _ _ ht => refused_of h ht
/-- What is told is read as it was. -/
theorem b64_round (S : Nat → Addr) (s : ByteArray) (hs : 2 * s.size ≤ 1048576) (W : World) (hB : Base S W) : Calls Tryd.prog 13 #[.string ⟨(b64 s.data.toList).toArray⟩] W (Reads (.string s) W) := by
  have := fromBase64_any S ⟨(b64 s.data.toList).toArray⟩ W (by rw [mk_size, b64_length, size_list]; omega) hB
  simp only [] at this
  rw [fromB64_b64 _ (by rw [size_list]; omega), bytes_back] at this
  exact this.mono fun _ _ ht => reads_of rfl ht
theorem hex_round (S : Nat → Addr) (s : ByteArray) (hs : 2 * s.size ≤ 1048576) (W : World) (hB : Base S W) : Calls Tryd.prog 28 #[.string ⟨(hexL s.data.toList).toArray⟩] W (Reads (.string s) W) := by
  have := fromHex_any S ⟨(hexL s.data.toList).toArray⟩ W (by rw [mk_size, hexL_length, size_list]; omega) hB
  simp only [] at this
  rw [fromHex_hex _ (by rw [size_list]; omega), bytes_back] at this
  exact this.mono fun _ _ ht => reads_of rfl ht
theorem dec_round (S : Nat → Addr) (N : Nat) (hN : N ≤ 18446744073709551615) (W : World) (hB : Base S W) : Calls Tryd.prog 29 #[.string ⟨(Lib.decDigits N).toArray⟩] W (Reads (.int .u64 (N : Int)) W) := by
  have h20 := nDigits_20 N hN
  have := fromDecimal_any S ⟨(Lib.decDigits N).toArray⟩ W (by rw [mk_size, Lib.decDigits_length]; omega) hB
  simp only [] at this
  rw [fromDec_digits N hN] at this
  exact this.mono fun _ _ ht => reads_of rfl ht

set_option maxHeartbeats 3000000 in
set_option maxRecDepth 100000 in
theorem back_walk (S : Nat → Addr) (s : ByteArray) (N : Nat) (t : ByteArray) (w : World) (hN : N ≤ 18446744073709551615) (hst : s.size + t.size ≤ 1048576) (hB : Base S w) (hT : Tab w) :
    Calls Tryd.prog 12 #[.string s, .int .u64 N, .string t] w fun e w' => e = .returned (.bool true) ∧ Below w.heap.size w w' := by
  have HB := Lib.hid hB
  have HT := Lib.hid hT
  have H1 := Lib.hid (fun W => base64_any s W (by omega))
  have H2 := Lib.hid (fun W => hex_any s W (by omega))
  have hxa : (⟨(b64 s.data.toList).toArray⟩ : ByteArray).size = (s.size + 2) / 3 * 4 := by rw [mk_size, b64_length, size_list]
  have hxb : (⟨(hexL s.data.toList).toArray⟩ : ByteArray).size = 2 * s.size := by rw [mk_size, hexL_length, size_list]
  have R1 := Lib.hid (b64_round S s)
  have R2 := Lib.hid (hex_round S s)
  have D1 := Lib.hid (decimal_any N hN)
  have D2 := Lib.hid (dec_round S N hN)
  clear hB hT
  generalize (⟨(b64 s.data.toList).toArray⟩ : ByteArray) = xa at *
  generalize (⟨(hexL s.data.toList).toArray⟩ : ByteArray) = xb at *
  generalize (⟨(Lib.decDigits N).toArray⟩ : ByteArray) = xd at *
  have q1 : ((xa.size : Int) != ((s.size : Int) + 2) / 3 * 4) = false := by simp; omega
  have q2 : ((xb.size : Int) != 2 * (s.size : Int)) = false := by simp; omega
  have hxb' : (xb.size : Int) = 2 * (s.size : Int) := by omega
  have HXB := Lib.hid hxb
  clear hxa hxb hxb'
  go_enter Tryd.func12, Tryd.ntmps12
  go_wp2_with fail
  refine (H1.out _).mono ?_
  rintro e w1 ⟨rfl, b1⟩
  go_wp2_with fail
  refine (H2.out _).mono ?_
  rintro e w2 ⟨rfl, b2⟩
  have hb2 := below_trans b1 b2
  have HB2 := Lib.hid (HB.out.below hb2)
  have HT2 := Lib.hid (tab_below HT.out hb2)
  clear b1 b2 HB HT
  go_upto_if 40 with fail
  go_cut [] from 7 (fun wx => Below w.heap.size w wx ∧ Base S wx ∧ Tab wx)
  case first =>
    by_cases hsm : xb.size ≤ 1048576
    · have h2s : 2 * s.size ≤ 1048576 := by rw [← HXB.out]; exact hsm
      have hsm' : (xb.size : Int) ≤ 1048576 := by omega
      go_wp2_with fail
      refine (R1.out h2s _ HB2.out).mono ?_
      rintro e w3 ⟨rfl, b3⟩
      have HB3 := Lib.hid (HB2.out.below b3)
      go_wp2_with fail
      refine (R2.out h2s _ HB3.out).mono ?_
      rintro e w4 ⟨rfl, b4⟩
      have hb4 := below_trans (below_trans hb2 b3) b4
      have HB4 := Lib.hid (HB3.out.below b4)
      have HT4 := Lib.hid (tab_below (tab_below HT2.out b3) b4)
      clear b3 b4
      go_wp2_with fail
      go_meet
      case rel => exact ⟨hb4, HB4.out, HT4.out⟩
    · have hsm' : ¬ (xb.size : Int) ≤ 1048576 := by omega
      go_wp2_with fail
      go_meet
      case rel => exact ⟨hb2, HB2.out, HT2.out⟩
  case rest =>
  obtain ⟨hbc, hBc, hTc⟩ := hcut
  have HBc := Lib.hid hBc
  have HTc := Lib.hid hTc
  clear hBc hTc hb2 HB2 HT2 R1 R2 H1 H2 q1 q2 HXB
  go_wp2_with fail
  refine (D1.out _ HTc.out).mono ?_
  rintro e w5 ⟨rfl, b5⟩
  have HB5 := Lib.hid (HBc.out.below b5)
  have HT5 := Lib.hid (tab_below HTc.out b5)
  go_wp2_with fail
  refine (D2.out _ HB5.out).mono ?_
  rintro e w6 ⟨rfl, b6⟩
  have hb6 := below_trans (below_trans hbc b5) b6
  have HB6 := Lib.hid (HB5.out.below b6)
  have HT6 := Lib.hid (tab_below HT5.out b6)
  have htz : t.size ≤ 1048576 := by omega
  clear b5 b6 hbc HBc HTc D1 D2
  by_cases k1 : (fromB64 t.data.toList).2.1 = 0
  · obtain ⟨x1, p1, p2⟩ := b64_there S t htz k1
    have T64a := Lib.hid p1
    have T64b := Lib.hid p2
    clear p1 p2 k1
    by_cases k2 : (fromHexL t.data.toList).2.1 = 0
    · obtain ⟨x2, p1, p2⟩ := hex_there S t htz k2
      have THXa := Lib.hid p1
      have THXb := Lib.hid p2
      clear p1 p2 k2
      by_cases k3 : (fromDec t.data.toList).2.1 = 0
      · obtain ⟨z3, p1, p2⟩ := dec_there S t htz k3
        have TDCa := Lib.hid p1
        have TDCb := Lib.hid p2
        clear p1 p2 k3
        go_wp2_with fail
        refine (T64a.out _ HB6.out).mono ?_
        rintro e w7 ⟨rfl, b7⟩
        have hb7 := below_trans hb6 b7
        have HB7 := Lib.hid (HB6.out.below b7)
        have HT7 := Lib.hid (tab_below HT6.out b7)
        clear b7
        go_wp2_with fail
        refine (T64b.out _).mono ?_
        rintro e w8 ⟨rfl, b8⟩
        have hb8 := below_trans hb7 b8
        have HB8 := Lib.hid (HB7.out.below b8)
        have HT8 := Lib.hid (tab_below HT7.out b8)
        clear b8
        go_wp2_with fail
        refine (THXa.out _ HB8.out).mono ?_
        rintro e w9 ⟨rfl, b9⟩
        have hb9 := below_trans hb8 b9
        have HB9 := Lib.hid (HB8.out.below b9)
        have HT9 := Lib.hid (tab_below HT8.out b9)
        clear b9
        go_wp2_with fail
        refine (THXb.out _).mono ?_
        rintro e w10 ⟨rfl, b10⟩
        have hb10 := below_trans hb9 b10
        have HB10 := Lib.hid (HB9.out.below b10)
        have HT10 := Lib.hid (tab_below HT9.out b10)
        clear b10
        go_wp2_with fail
        refine (TDCa.out _ HB10.out).mono ?_
        rintro e w11 ⟨rfl, b11⟩
        have hb11 := below_trans hb10 b11
        have HB11 := Lib.hid (HB10.out.below b11)
        have HT11 := Lib.hid (tab_below HT10.out b11)
        clear b11
        go_wp2_with fail
        refine (TDCb.out _ HT11.out).mono ?_
        rintro e w12 ⟨rfl, b12⟩
        have hb12 := below_trans hb11 b12
        have HB12 := Lib.hid (HB11.out.below b12)
        have HT12 := Lib.hid (tab_below HT11.out b12)
        clear b12
        go_wp2_with fail
        refine (alive_any S _ HB12.out).mono ?_
        rintro e wz ⟨rfl, bz⟩
        go_wp2_with fail
        go_ret
        exact ⟨rfl, below_trans hb12 bz⟩
      · have TDCn := Lib.hid (dec_not S t htz k3)
        clear k3
        go_wp2_with fail
        refine (T64a.out _ HB6.out).mono ?_
        rintro e w7 ⟨rfl, b7⟩
        have hb7 := below_trans hb6 b7
        have HB7 := Lib.hid (HB6.out.below b7)
        have HT7 := Lib.hid (tab_below HT6.out b7)
        clear b7
        go_wp2_with fail
        refine (T64b.out _).mono ?_
        rintro e w8 ⟨rfl, b8⟩
        have hb8 := below_trans hb7 b8
        have HB8 := Lib.hid (HB7.out.below b8)
        have HT8 := Lib.hid (tab_below HT7.out b8)
        clear b8
        go_wp2_with fail
        refine (THXa.out _ HB8.out).mono ?_
        rintro e w9 ⟨rfl, b9⟩
        have hb9 := below_trans hb8 b9
        have HB9 := Lib.hid (HB8.out.below b9)
        have HT9 := Lib.hid (tab_below HT8.out b9)
        clear b9
        go_wp2_with fail
        refine (THXb.out _).mono ?_
        rintro e w10 ⟨rfl, b10⟩
        have hb10 := below_trans hb9 b10
        have HB10 := Lib.hid (HB9.out.below b10)
        have HT10 := Lib.hid (tab_below HT9.out b10)
        clear b10
        go_wp2_with fail
        refine (TDCn.out _ HB10.out).mono ?_
        rintro e w11 ⟨vx11, Tx11, xx11, rfl, b11⟩
        have hb11 := below_trans hb10 b11
        have HB11 := Lib.hid (HB10.out.below b11)
        have HT11 := Lib.hid (tab_below HT10.out b11)
        clear b11
        go_wp2_with fail
        refine (alive_any S _ HB11.out).mono ?_
        rintro e wz ⟨rfl, bz⟩
        go_wp2_with fail
        go_ret
        exact ⟨rfl, below_trans hb11 bz⟩
    · have THXn := Lib.hid (hex_not S t htz k2)
      clear k2
      by_cases k3 : (fromDec t.data.toList).2.1 = 0
      · obtain ⟨z3, p1, p2⟩ := dec_there S t htz k3
        have TDCa := Lib.hid p1
        have TDCb := Lib.hid p2
        clear p1 p2 k3
        go_wp2_with fail
        refine (T64a.out _ HB6.out).mono ?_
        rintro e w7 ⟨rfl, b7⟩
        have hb7 := below_trans hb6 b7
        have HB7 := Lib.hid (HB6.out.below b7)
        have HT7 := Lib.hid (tab_below HT6.out b7)
        clear b7
        go_wp2_with fail
        refine (T64b.out _).mono ?_
        rintro e w8 ⟨rfl, b8⟩
        have hb8 := below_trans hb7 b8
        have HB8 := Lib.hid (HB7.out.below b8)
        have HT8 := Lib.hid (tab_below HT7.out b8)
        clear b8
        go_wp2_with fail
        refine (THXn.out _ HB8.out).mono ?_
        rintro e w9 ⟨vx9, Tx9, xx9, rfl, b9⟩
        have hb9 := below_trans hb8 b9
        have HB9 := Lib.hid (HB8.out.below b9)
        have HT9 := Lib.hid (tab_below HT8.out b9)
        clear b9
        go_wp2_with fail
        refine (TDCa.out _ HB9.out).mono ?_
        rintro e w10 ⟨rfl, b10⟩
        have hb10 := below_trans hb9 b10
        have HB10 := Lib.hid (HB9.out.below b10)
        have HT10 := Lib.hid (tab_below HT9.out b10)
        clear b10
        go_wp2_with fail
        refine (TDCb.out _ HT10.out).mono ?_
        rintro e w11 ⟨rfl, b11⟩
        have hb11 := below_trans hb10 b11
        have HB11 := Lib.hid (HB10.out.below b11)
        have HT11 := Lib.hid (tab_below HT10.out b11)
        clear b11
        go_wp2_with fail
        refine (alive_any S _ HB11.out).mono ?_
        rintro e wz ⟨rfl, bz⟩
        go_wp2_with fail
        go_ret
        exact ⟨rfl, below_trans hb11 bz⟩
      · have TDCn := Lib.hid (dec_not S t htz k3)
        clear k3
        go_wp2_with fail
        refine (T64a.out _ HB6.out).mono ?_
        rintro e w7 ⟨rfl, b7⟩
        have hb7 := below_trans hb6 b7
        have HB7 := Lib.hid (HB6.out.below b7)
        have HT7 := Lib.hid (tab_below HT6.out b7)
        clear b7
        go_wp2_with fail
        refine (T64b.out _).mono ?_
        rintro e w8 ⟨rfl, b8⟩
        have hb8 := below_trans hb7 b8
        have HB8 := Lib.hid (HB7.out.below b8)
        have HT8 := Lib.hid (tab_below HT7.out b8)
        clear b8
        go_wp2_with fail
        refine (THXn.out _ HB8.out).mono ?_
        rintro e w9 ⟨vx9, Tx9, xx9, rfl, b9⟩
        have hb9 := below_trans hb8 b9
        have HB9 := Lib.hid (HB8.out.below b9)
        have HT9 := Lib.hid (tab_below HT8.out b9)
        clear b9
        go_wp2_with fail
        refine (TDCn.out _ HB9.out).mono ?_
        rintro e w10 ⟨vx10, Tx10, xx10, rfl, b10⟩
        have hb10 := below_trans hb9 b10
        have HB10 := Lib.hid (HB9.out.below b10)
        have HT10 := Lib.hid (tab_below HT9.out b10)
        clear b10
        go_wp2_with fail
        refine (alive_any S _ HB10.out).mono ?_
        rintro e wz ⟨rfl, bz⟩
        go_wp2_with fail
        go_ret
        exact ⟨rfl, below_trans hb10 bz⟩
  · have T64n := Lib.hid (b64_not S t htz k1)
    clear k1
    by_cases k2 : (fromHexL t.data.toList).2.1 = 0
    · obtain ⟨x2, p1, p2⟩ := hex_there S t htz k2
      have THXa := Lib.hid p1
      have THXb := Lib.hid p2
      clear p1 p2 k2
      by_cases k3 : (fromDec t.data.toList).2.1 = 0
      · obtain ⟨z3, p1, p2⟩ := dec_there S t htz k3
        have TDCa := Lib.hid p1
        have TDCb := Lib.hid p2
        clear p1 p2 k3
        go_wp2_with fail
        refine (T64n.out _ HB6.out).mono ?_
        rintro e w7 ⟨vx7, Tx7, xx7, rfl, b7⟩
        have hb7 := below_trans hb6 b7
        have HB7 := Lib.hid (HB6.out.below b7)
        have HT7 := Lib.hid (tab_below HT6.out b7)
        clear b7
        go_wp2_with fail
        refine (THXa.out _ HB7.out).mono ?_
        rintro e w8 ⟨rfl, b8⟩
        have hb8 := below_trans hb7 b8
        have HB8 := Lib.hid (HB7.out.below b8)
        have HT8 := Lib.hid (tab_below HT7.out b8)
        clear b8
        go_wp2_with fail
        refine (THXb.out _).mono ?_
        rintro e w9 ⟨rfl, b9⟩
        have hb9 := below_trans hb8 b9
        have HB9 := Lib.hid (HB8.out.below b9)
        have HT9 := Lib.hid (tab_below HT8.out b9)
        clear b9
        go_wp2_with fail
        refine (TDCa.out _ HB9.out).mono ?_
        rintro e w10 ⟨rfl, b10⟩
        have hb10 := below_trans hb9 b10
        have HB10 := Lib.hid (HB9.out.below b10)
        have HT10 := Lib.hid (tab_below HT9.out b10)
        clear b10
        go_wp2_with fail
        refine (TDCb.out _ HT10.out).mono ?_
        rintro e w11 ⟨rfl, b11⟩
        have hb11 := below_trans hb10 b11
        have HB11 := Lib.hid (HB10.out.below b11)
        have HT11 := Lib.hid (tab_below HT10.out b11)
        clear b11
        go_wp2_with fail
        refine (alive_any S _ HB11.out).mono ?_
        rintro e wz ⟨rfl, bz⟩
        go_wp2_with fail
        go_ret
        exact ⟨rfl, below_trans hb11 bz⟩
      · have TDCn := Lib.hid (dec_not S t htz k3)
        clear k3
        go_wp2_with fail
        refine (T64n.out _ HB6.out).mono ?_
        rintro e w7 ⟨vx7, Tx7, xx7, rfl, b7⟩
        have hb7 := below_trans hb6 b7
        have HB7 := Lib.hid (HB6.out.below b7)
        have HT7 := Lib.hid (tab_below HT6.out b7)
        clear b7
        go_wp2_with fail
        refine (THXa.out _ HB7.out).mono ?_
        rintro e w8 ⟨rfl, b8⟩
        have hb8 := below_trans hb7 b8
        have HB8 := Lib.hid (HB7.out.below b8)
        have HT8 := Lib.hid (tab_below HT7.out b8)
        clear b8
        go_wp2_with fail
        refine (THXb.out _).mono ?_
        rintro e w9 ⟨rfl, b9⟩
        have hb9 := below_trans hb8 b9
        have HB9 := Lib.hid (HB8.out.below b9)
        have HT9 := Lib.hid (tab_below HT8.out b9)
        clear b9
        go_wp2_with fail
        refine (TDCn.out _ HB9.out).mono ?_
        rintro e w10 ⟨vx10, Tx10, xx10, rfl, b10⟩
        have hb10 := below_trans hb9 b10
        have HB10 := Lib.hid (HB9.out.below b10)
        have HT10 := Lib.hid (tab_below HT9.out b10)
        clear b10
        go_wp2_with fail
        refine (alive_any S _ HB10.out).mono ?_
        rintro e wz ⟨rfl, bz⟩
        go_wp2_with fail
        go_ret
        exact ⟨rfl, below_trans hb10 bz⟩
    · have THXn := Lib.hid (hex_not S t htz k2)
      clear k2
      by_cases k3 : (fromDec t.data.toList).2.1 = 0
      · obtain ⟨z3, p1, p2⟩ := dec_there S t htz k3
        have TDCa := Lib.hid p1
        have TDCb := Lib.hid p2
        clear p1 p2 k3
        go_wp2_with fail
        refine (T64n.out _ HB6.out).mono ?_
        rintro e w7 ⟨vx7, Tx7, xx7, rfl, b7⟩
        have hb7 := below_trans hb6 b7
        have HB7 := Lib.hid (HB6.out.below b7)
        have HT7 := Lib.hid (tab_below HT6.out b7)
        clear b7
        go_wp2_with fail
        refine (THXn.out _ HB7.out).mono ?_
        rintro e w8 ⟨vx8, Tx8, xx8, rfl, b8⟩
        have hb8 := below_trans hb7 b8
        have HB8 := Lib.hid (HB7.out.below b8)
        have HT8 := Lib.hid (tab_below HT7.out b8)
        clear b8
        go_wp2_with fail
        refine (TDCa.out _ HB8.out).mono ?_
        rintro e w9 ⟨rfl, b9⟩
        have hb9 := below_trans hb8 b9
        have HB9 := Lib.hid (HB8.out.below b9)
        have HT9 := Lib.hid (tab_below HT8.out b9)
        clear b9
        go_wp2_with fail
        refine (TDCb.out _ HT9.out).mono ?_
        rintro e w10 ⟨rfl, b10⟩
        have hb10 := below_trans hb9 b10
        have HB10 := Lib.hid (HB9.out.below b10)
        have HT10 := Lib.hid (tab_below HT9.out b10)
        clear b10
        go_wp2_with fail
        refine (alive_any S _ HB10.out).mono ?_
        rintro e wz ⟨rfl, bz⟩
        go_wp2_with fail
        go_ret
        exact ⟨rfl, below_trans hb10 bz⟩
      · have TDCn := Lib.hid (dec_not S t htz k3)
        clear k3
        go_wp2_with fail
        refine (T64n.out _ HB6.out).mono ?_
        rintro e w7 ⟨vx7, Tx7, xx7, rfl, b7⟩
        have hb7 := below_trans hb6 b7
        have HB7 := Lib.hid (HB6.out.below b7)
        have HT7 := Lib.hid (tab_below HT6.out b7)
        clear b7
        go_wp2_with fail
        refine (THXn.out _ HB7.out).mono ?_
        rintro e w8 ⟨vx8, Tx8, xx8, rfl, b8⟩
        have hb8 := below_trans hb7 b8
        have HB8 := Lib.hid (HB7.out.below b8)
        have HT8 := Lib.hid (tab_below HT7.out b8)
        clear b8
        go_wp2_with fail
        refine (TDCn.out _ HB8.out).mono ?_
        rintro e w9 ⟨vx9, Tx9, xx9, rfl, b9⟩
        have hb9 := below_trans hb8 b9
        have HB9 := Lib.hid (HB8.out.below b9)
        have HT9 := Lib.hid (tab_below HT8.out b9)
        clear b9
        go_wp2_with fail
        refine (alive_any S _ HB9.out).mono ?_
        rintro e wz ⟨rfl, bz⟩
        go_wp2_with fail
        go_ret
        exact ⟨rfl, below_trans hb9 bz⟩
theorem textBack_walk : TextBackFrame.Walk := fun S s n t w _ hn _ hB hT hst => by
  obtain ⟨N, rfl⟩ : ∃ N : Nat, n = N := ⟨n.toNat, by omega⟩
  exact back_walk S s N t w (by omega) hst hB hT
theorem textBack_card : Rows.TextBackUptoCardSaid := TextBackFrame.card textBack_walk
end Go.Proofs.YtobnlnkmonaohaaDoor
