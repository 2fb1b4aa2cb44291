/-
  cartularyref03: FromBase64 by its contract (printed by wip/genreff64.py).
-/
import Derived.Test.YtjmgkallgflcdaaGreatDoorRefW
import Derived.Test.YtjmgkallgflcdaaGreatDoorRefFH
namespace Go.Proofs.YtjmgkallgflcdaaGreatDoor
open Go.RowKit

theorem w64_cases {n k : Nat} {l : List UInt8} (hn : k + l.length = n) (h : w64 n k l = -1) : l = [] ∨ ∃ a b c d r A B, l = a :: b :: c :: d :: r ∧ w64 n (k + 4) r = -1 ∧ idx64 a = ((A : Nat) : Int) ∧ A < 64 ∧ a ≠ 61 ∧ idx64 b = ((B : Nat) : Int) ∧ B < 64 ∧ b ≠ 61 ∧
    ((c = 61 ∧ d = 61) ∨ ∃ C, idx64 c = ((C : Nat) : Int) ∧ C < 64 ∧ c ≠ 61 ∧ (d = 61 ∨ ∃ D, idx64 d = ((D : Nat) : Int) ∧ D < 64 ∧ d ≠ 61)) := by
  match l with
  | [] => exact .inl rfl
  | [a] => rw [wl1] at h; split at h <;> omega
  | [a, b] => rw [wl2] at h; split at h <;> omega
  | [a, b, c] => rw [wl3] at h; split at h <;> omega
  | a :: b :: c :: d :: r =>
    rw [w64_4] at h
    split at h
    · omega
    · rename_i hg
      split at h
      · omega
      · obtain ⟨g0, g1, g2, g3⟩ := group_ok a b c d hg
        obtain ⟨a0, a1⟩ := badG_01 (by omega) g0
        obtain ⟨b0, b1⟩ := badG_01 (by omega) g1
        have ha := idx64_bd a
        have hb := idx64_bd b
        have hc := idx64_bd c
        have hd := idx64_bd d
        refine .inr ⟨a, b, c, d, r, (idx64 a).toNat, (idx64 b).toNat, rfl, h, by omega, by omega, a1, by omega, by omega, b1, ?_⟩
        rcases badG_2 g2 with ⟨rfl, _⟩ | ⟨c0, c1⟩
        · rcases badG_3 g3 with ⟨rfl, _⟩ | ⟨_, _, h'⟩
          · exact .inl ⟨rfl, rfl⟩
          · exact absurd rfl h'
        · refine .inr ⟨(idx64 c).toNat, by omega, by omega, c1, ?_⟩
          rcases badG_3 g3 with ⟨rfl, _⟩ | ⟨d0, d1, _⟩
          · exact .inl rfl
          · exact .inr ⟨(idx64 d).toNat, by omega, by omega, d1⟩
def RF64Rel (s : ByteArray) (w : World) (vo vi : Value) (wr : World) : Prop :=
  ∃ (k : Nat) (out : List UInt8), k ≤ s.size ∧ vi = .int .i64 k ∧ out.length ≤ k ∧ wr.ownsRow (fW w).heap.size 5 1 vo out.length (Lib.byteCells out) ∧ Below (fW w).heap.size (fW w) wr ∧
    w64 s.size k (s.data.toList.drop k) = -1 ∧ out ++ dec64 (s.data.toList.drop k) = dec64 s.data.toList

set_option maxHeartbeats 4000000 in
set_option maxRecDepth 100000 in
theorem refFromB64_any (s : ByteArray) (w : World) (hs : s.size ≤ 9223372036854775000) :
    Calls Tryz.prog 41 #[.string s] w fun e w' => e = .returned (told2 (fromB64 s.data.toList)) ∧ Below w.heap.size w w' := by
  have hsz := size_list s
  have hans := fromB64_ref s.data.toList
  rw [hsz] at hans
  generalize fromB64 s.data.toList = ans at *
  have HA := Lib.hid hans
  have HS := Lib.hid hsz
  clear hsz hans
  by_cases hbig : 1048576 < s.size
  · have HP := Lib.hid fun W => faultPlain_any 4 (by decide) W
    go_enter Tryz.func41, Tryz.ntmps41
    go_wp2_with fail
    refine (HP.out _).mono ?_
    rintro e w1 ⟨rfl, b1⟩
    have hh := (fW_row w).below b1
    obtain ⟨c0, c1, f0, f1⟩ := hh.cells
    have HH := Lib.hid hh
    have hb := end_below (fW_below b1) 4 (-1)
    clear hh
    go_wp2_with fail
    refine ret_told rfl w.heap.size 4 (-1) (.string ⟨#[]⟩) (fault_set HH.out _ _) rfl rfl rfl ⟨?_, hb⟩
    have e : ans = ([], 4, none) := by rw [HA.out, if_pos hbig]
    rw [e]; rfl
  · have hW := fun W => wrong64_any s W (by omega)
    have hge := w64_ge s.data.toList s.size 0
    by_cases hw : w64 s.size 0 s.data.toList = -1
    · rw [hw] at hW
      have HW := Lib.hid hW
      have HW0 := Lib.hid hw
      obtain ⟨i0, hi, hz0, hz1, hz2⟩ := info_parts Tryz.infoByte
      clear hW hge hw
      go_enter Tryz.func41, Tryz.ntmps41
      go_wp2_with fail
      refine (HW.out _).mono ?_
      rintro e w1 ⟨rfl, rfl⟩
      go_wp2_with fail
      go_loopw [5, 6] (fun vo vi wr => RF64Rel s w vo vi wr) (fun _ vi _ => s.size - (intOf vi).toNat)
      case atStart => exact ⟨0, [], by omega, rfl, by simp, World.ownsRow_nil _ _ _ _, Below.refl _ _, HW0.out, rfl⟩
      case round =>
        obtain ⟨k, out, hk, rfl, hol, hown, hbel, hwk, hacc⟩ := hrel
        have HACC := Lib.hid hacc
        have hcs := w64_cases (by rw [List.length_drop, HS.out]; omega) hwk
        have HLEN := Lib.hid (show (s.data.toList.drop k).length = s.size - k by rw [List.length_drop, HS.out])
        clear hacc hwk
        have hwsz := hbel.size
        rw [fW_size] at hwsz
        by_cases hlt : k < s.size
        · rcases hcs with h0 | ⟨a, b, c, d, r, A, B, hl, hwr, hA, hA64, ha, hB, hB64, hb, hcd⟩
          · have := HLEN.out; rw [h0] at this; simp at this; omega
          · have hk4 : k + 4 ≤ s.size := by have := HLEN.out; rw [hl] at this; simp only [List.length_cons] at this; omega
            have hget : ∀ j, (s.data.toList.drop k)[j]? = s.data.toList[k + j]? := fun j => by rw [List.getElem?_drop]
            rw [hl] at hget
            have hdr : s.data.toList.drop (k + 4) = r := by rw [← List.drop_drop, hl]; rfl
            have HDR := Lib.hid hdr
            have HWR := Lib.hid hwr
            have xa := fun w => run_idx (P := Tryz.prog) Tryz.underlying9 s k a (hget 0).symm (k : Int) rfl .i64 w
            have xb := fun w => run_idx (P := Tryz.prog) Tryz.underlying9 s (k + 1) b (hget 1).symm ((k : Int) + 1) (by omega) .i64 w
            have xc := fun w => run_idx (P := Tryz.prog) Tryz.underlying9 s (k + 2) c (hget 2).symm ((k : Int) + 1 + 1) (by omega) .i64 w
            have xd := fun w => run_idx (P := Tryz.prog) Tryz.underlying9 s (k + 3) d (hget 3).symm ((k : Int) + 1 + 1 + 1) (by omega) .i64 w
            have a256 := UInt8.toNat_lt a
            have b256 := UInt8.toNat_lt b
            have c256 := UInt8.toNat_lt c
            have d256 := UInt8.toNat_lt d
            have qa := (ne61 ha).2
            have qb := (ne61 hb).2
            have HNA := Lib.hid (num_let a A hA)
            have HNB := Lib.hid (num_let b B hB)
            have hacc := HACC.out
            rw [hl] at hacc
            have na : num64 a = A := by unfold num64; rw [hA]; simp
            have nb : num64 b = B := by unfold num64; rw [hB]; simp
            clear hget hdr hwr hl hA hB ha hb
            rcases hcd with ⟨rfl, rfl⟩ | ⟨C, hC, hC64, hc, rfl | ⟨D, hD, hD64, hd⟩⟩
            · skip
              have qc : (((61 : UInt8).toNat : Int) == 61) = true := rfl
              have hfin : out ++ [byteN (n4 A B 0 0 / 65536)] ++ dec64 r = dec64 s.data.toList := by rw [← hacc, dec64, if_pos rfl, na, nb]; simp
              have HFIN := Lib.hid hfin
              have e1 : (((A : Int) * 64 + (B : Int)) * 64 * 64 : Int).tmod 256 = (((A : Int) * 64 + (B : Int)) * 64 * 64) % 256 := Int.tmod_eq_emod_of_nonneg (by omega)
              have e2 : ((((A : Int) * 64 + (B : Int)) * 64 * 64) / 256 : Int).tmod 256 = (((A : Int) * 64 + (B : Int)) * 64 * 64) / 256 % 256 := Int.tmod_eq_emod_of_nonneg (by omega)
              have h1 : IntKind.u8.wrap ((((A : Int) * 64 + (B : Int)) * 64 * 64) / 65536) = ((byteN (n4 A B 0 0 / 65536)).toNat : Int) := by rw [byteN_val, IntKind.wrap_u8]; unfold n4; omega
              have h2 : IntKind.u8.wrap ((((A : Int) * 64 + (B : Int)) * 64 * 64) / 256 % 256) = ((byteN (n4 A B 0 0 / 256 % 256)).toNat : Int) := by rw [byteN_val, IntKind.wrap_u8]; unfold n4; omega
              have h3 : IntKind.u8.wrap ((((A : Int) * 64 + (B : Int)) * 64 * 64) % 256) = ((byteN (n4 A B 0 0 % 256)).toNat : Int) := by rw [byteN_val, IntKind.wrap_u8]; unfold n4; omega
              clear hacc hfin na nb
              generalize byteN (n4 A B 0 0 / 65536) = y1 at *
              generalize byteN (n4 A B 0 0 / 256 % 256) = y2 at *
              generalize byteN (n4 A B 0 0 % 256) = y3 at *
              have hone := byteCells_one [y1]
              go_wp2_with fail
              refine wp_loop_rounds 5 ?_
              rw [rounds_succ]
              go_wp2_with fail
              refine (HNA.out _).mono ?_
              rintro e w2 ⟨rfl, rfl⟩
              go_wp2_with fail
              rw [rounds_succ]
              go_wp2_with fail
              refine (HNB.out _).mono ?_
              rintro e w2 ⟨rfl, rfl⟩
              go_wp2_with fail
              rw [rounds_succ]
              go_wp2_with fail
              rw [rounds_succ]
              go_wp2_with fail
              rw [rounds_succ]
              go_wp2_with (at_builtin; refine wpList_append_own _ rfl _ _ 77 rfl (fW w).heap.size 5 i0 (.int .u8 0) 1 1 Tryz.underlying77 hi hz0 hz1 hz2 rfl (by decide) _ _ _ rfl (hown.alloc _) ⟨wr.heap.size, 0, none⟩ 1 3 (Lib.byteCells [y1]) rfl rfl ?c1x1 ?c2x1 ?c3x1 ?c4x1 ?c5x1 ?_)
              case c1x1 =>
                intro j u hj
                have hj3 : (Lib.byteCells [y1, y2, y3])[j]? = some u := by
                  have hlt := (List.getElem?_eq_some_iff.1 hj).1
                  simp [Lib.byteCells] at hlt
                  match j, hlt, hj with
                  | 0, _, hj => exact hj
                  | 1, _, hj => first | exact hj | omega
                  | 2, _, hj => first | exact hj | omega
                exact (heap_news wr _ [y1, y2, y3] j).trans hj3
              case c2x1 => exact hone
              case c3x1 => unfold maxLen; omega
              case c4x1 => omega
              case c5x1 => simp [fW_size]; omega
              intro v' w1 hown' hgrow _
              rw [cells_app] at hown'
              have hbel1 : Below (fW w).heap.size (fW w) w1 := (hbel.alloc hbel.size _).grown hgrow (by have := hbel.size; simp; omega) (fun j hj => (hown.lt j hj).1)
              have hown1 : w1.ownsRow (fW w).heap.size 5 1 v' (out ++ [y1]).length (Lib.byteCells (out ++ [y1])) := by rw [List.length_append]; exact hown'
              clear hown hgrow hbel hown'
              go_wp2_with fail
              go_roundw
              case rel => exact ⟨k + 4, _, by omega, by go_num, by simp; omega, hown1, hbel1, by rw [HDR.out]; exact HWR.out, by rw [HDR.out]; exact HFIN.out⟩
              case measure => simp [intOf]; omega
            · skip
              have qc := (ne61 hc).2
              have qd : (((61 : UInt8).toNat : Int) == 61) = true := rfl
              have HNC := Lib.hid (num_let c C hC)
              have nc : num64 c = C := by unfold num64; rw [hC]; simp
              have hfin : out ++ [byteN (n4 A B C 0 / 65536), byteN (n4 A B C 0 / 256 % 256)] ++ dec64 r = dec64 s.data.toList := by rw [← hacc, dec64, if_neg hc, if_pos rfl, na, nb, nc]; simp
              clear hC hc nc
              have HFIN := Lib.hid hfin
              have e1 : ((((A : Int) * 64 + (B : Int)) * 64 + (C : Int)) * 64 : Int).tmod 256 = ((((A : Int) * 64 + (B : Int)) * 64 + (C : Int)) * 64) % 256 := Int.tmod_eq_emod_of_nonneg (by omega)
              have e2 : (((((A : Int) * 64 + (B : Int)) * 64 + (C : Int)) * 64) / 256 : Int).tmod 256 = ((((A : Int) * 64 + (B : Int)) * 64 + (C : Int)) * 64) / 256 % 256 := Int.tmod_eq_emod_of_nonneg (by omega)
              have h1 : IntKind.u8.wrap (((((A : Int) * 64 + (B : Int)) * 64 + (C : Int)) * 64) / 65536) = ((byteN (n4 A B C 0 / 65536)).toNat : Int) := by rw [byteN_val, IntKind.wrap_u8]; unfold n4; omega
              have h2 : IntKind.u8.wrap (((((A : Int) * 64 + (B : Int)) * 64 + (C : Int)) * 64) / 256 % 256) = ((byteN (n4 A B C 0 / 256 % 256)).toNat : Int) := by rw [byteN_val, IntKind.wrap_u8]; unfold n4; omega
              have h3 : IntKind.u8.wrap (((((A : Int) * 64 + (B : Int)) * 64 + (C : Int)) * 64) % 256) = ((byteN (n4 A B C 0 % 256)).toNat : Int) := by rw [byteN_val, IntKind.wrap_u8]; unfold n4; omega
              clear hacc hfin na nb
              generalize byteN (n4 A B C 0 / 65536) = y1 at *
              generalize byteN (n4 A B C 0 / 256 % 256) = y2 at *
              generalize byteN (n4 A B C 0 % 256) = y3 at *
              have hone := byteCells_one [y1, y2]
              go_wp2_with fail
              refine wp_loop_rounds 5 ?_
              rw [rounds_succ]
              go_wp2_with fail
              refine (HNA.out _).mono ?_
              rintro e w2 ⟨rfl, rfl⟩
              go_wp2_with fail
              rw [rounds_succ]
              go_wp2_with fail
              refine (HNB.out _).mono ?_
              rintro e w2 ⟨rfl, rfl⟩
              go_wp2_with fail
              rw [rounds_succ]
              go_wp2_with fail
              refine (HNC.out _).mono ?_
              rintro e w2 ⟨rfl, rfl⟩
              go_wp2_with fail
              rw [rounds_succ]
              go_wp2_with fail
              rw [rounds_succ]
              go_wp2_with (at_builtin; refine wpList_append_own _ rfl _ _ 77 rfl (fW w).heap.size 5 i0 (.int .u8 0) 1 1 Tryz.underlying77 hi hz0 hz1 hz2 rfl (by decide) _ _ _ rfl (hown.alloc _) ⟨wr.heap.size, 0, none⟩ 2 3 (Lib.byteCells [y1, y2]) rfl rfl ?c1x2 ?c2x2 ?c3x2 ?c4x2 ?c5x2 ?_)
              case c1x2 =>
                intro j u hj
                have hj3 : (Lib.byteCells [y1, y2, y3])[j]? = some u := by
                  have hlt := (List.getElem?_eq_some_iff.1 hj).1
                  simp [Lib.byteCells] at hlt
                  match j, hlt, hj with
                  | 0, _, hj => exact hj
                  | 1, _, hj => first | exact hj | omega
                  | 2, _, hj => first | exact hj | omega
                exact (heap_news wr _ [y1, y2, y3] j).trans hj3
              case c2x2 => exact hone
              case c3x2 => unfold maxLen; omega
              case c4x2 => omega
              case c5x2 => simp [fW_size]; omega
              intro v' w1 hown' hgrow _
              rw [cells_app] at hown'
              have hbel1 : Below (fW w).heap.size (fW w) w1 := (hbel.alloc hbel.size _).grown hgrow (by have := hbel.size; simp; omega) (fun j hj => (hown.lt j hj).1)
              have hown1 : w1.ownsRow (fW w).heap.size 5 1 v' (out ++ [y1, y2]).length (Lib.byteCells (out ++ [y1, y2])) := by rw [List.length_append]; exact hown'
              clear hown hgrow hbel hown'
              go_wp2_with fail
              go_roundw
              case rel => exact ⟨k + 4, _, by omega, by go_num, by simp; omega, hown1, hbel1, by rw [HDR.out]; exact HWR.out, by rw [HDR.out]; exact HFIN.out⟩
              case measure => simp [intOf]; omega
            · skip
              have qc := (ne61 hc).2
              have qd := (ne61 hd).2
              have HNC := Lib.hid (num_let c C hC)
              have HND := Lib.hid (num_let d D hD)
              have nc : num64 c = C := by unfold num64; rw [hC]; simp
              have nd : num64 d = D := by unfold num64; rw [hD]; simp
              have hfin : out ++ [byteN (n4 A B C D / 65536), byteN (n4 A B C D / 256 % 256), byteN (n4 A B C D % 256)] ++ dec64 r = dec64 s.data.toList := by rw [← hacc, dec64, if_neg hc, if_neg hd, na, nb, nc, nd]; simp
              clear hC hc nc hD hd nd
              have HFIN := Lib.hid hfin
              have e1 : ((((A : Int) * 64 + (B : Int)) * 64 + (C : Int)) * 64 + (D : Int) : Int).tmod 256 = ((((A : Int) * 64 + (B : Int)) * 64 + (C : Int)) * 64 + (D : Int)) % 256 := Int.tmod_eq_emod_of_nonneg (by omega)
              have e2 : (((((A : Int) * 64 + (B : Int)) * 64 + (C : Int)) * 64 + (D : Int)) / 256 : Int).tmod 256 = ((((A : Int) * 64 + (B : Int)) * 64 + (C : Int)) * 64 + (D : Int)) / 256 % 256 := Int.tmod_eq_emod_of_nonneg (by omega)
              have h1 : IntKind.u8.wrap (((((A : Int) * 64 + (B : Int)) * 64 + (C : Int)) * 64 + (D : Int)) / 65536) = ((byteN (n4 A B C D / 65536)).toNat : Int) := by rw [byteN_val, IntKind.wrap_u8]; unfold n4; omega
              have h2 : IntKind.u8.wrap (((((A : Int) * 64 + (B : Int)) * 64 + (C : Int)) * 64 + (D : Int)) / 256 % 256) = ((byteN (n4 A B C D / 256 % 256)).toNat : Int) := by rw [byteN_val, IntKind.wrap_u8]; unfold n4; omega
              have h3 : IntKind.u8.wrap (((((A : Int) * 64 + (B : Int)) * 64 + (C : Int)) * 64 + (D : Int)) % 256) = ((byteN (n4 A B C D % 256)).toNat : Int) := by rw [byteN_val, IntKind.wrap_u8]; unfold n4; omega
              clear hacc hfin na nb
              generalize byteN (n4 A B C D / 65536) = y1 at *
              generalize byteN (n4 A B C D / 256 % 256) = y2 at *
              generalize byteN (n4 A B C D % 256) = y3 at *
              have hone := byteCells_one [y1, y2, y3]
              go_wp2_with fail
              refine wp_loop_rounds 5 ?_
              rw [rounds_succ]
              go_wp2_with fail
              refine (HNA.out _).mono ?_
              rintro e w2 ⟨rfl, rfl⟩
              go_wp2_with fail
              rw [rounds_succ]
              go_wp2_with fail
              refine (HNB.out _).mono ?_
              rintro e w2 ⟨rfl, rfl⟩
              go_wp2_with fail
              rw [rounds_succ]
              go_wp2_with fail
              refine (HNC.out _).mono ?_
              rintro e w2 ⟨rfl, rfl⟩
              go_wp2_with fail
              rw [rounds_succ]
              go_wp2_with fail
              refine (HND.out _).mono ?_
              rintro e w2 ⟨rfl, rfl⟩
              go_wp2_with fail
              rw [rounds_succ]
              go_wp2_with (at_builtin; refine wpList_append_own _ rfl _ _ 77 rfl (fW w).heap.size 5 i0 (.int .u8 0) 1 1 Tryz.underlying77 hi hz0 hz1 hz2 rfl (by decide) _ _ _ rfl (hown.alloc _) ⟨wr.heap.size, 0, none⟩ 3 3 (Lib.byteCells [y1, y2, y3]) rfl rfl ?c1x3 ?c2x3 ?c3x3 ?c4x3 ?c5x3 ?_)
              case c1x3 =>
                intro j u hj
                have hj3 : (Lib.byteCells [y1, y2, y3])[j]? = some u := by
                  have hlt := (List.getElem?_eq_some_iff.1 hj).1
                  simp [Lib.byteCells] at hlt
                  match j, hlt, hj with
                  | 0, _, hj => exact hj
                  | 1, _, hj => first | exact hj | omega
                  | 2, _, hj => first | exact hj | omega
                exact (heap_news wr _ [y1, y2, y3] j).trans hj3
              case c2x3 => exact hone
              case c3x3 => unfold maxLen; omega
              case c4x3 => omega
              case c5x3 => simp [fW_size]; omega
              intro v' w1 hown' hgrow _
              rw [cells_app] at hown'
              have hbel1 : Below (fW w).heap.size (fW w) w1 := (hbel.alloc hbel.size _).grown hgrow (by have := hbel.size; simp; omega) (fun j hj => (hown.lt j hj).1)
              have hown1 : w1.ownsRow (fW w).heap.size 5 1 v' (out ++ [y1, y2, y3]).length (Lib.byteCells (out ++ [y1, y2, y3])) := by rw [List.length_append]; exact hown'
              clear hown hgrow hbel hown'
              go_wp2_with fail
              go_roundw
              case rel => exact ⟨k + 4, _, by omega, by go_num, by simp; omega, hown1, hbel1, by rw [HDR.out]; exact HWR.out, by rw [HDR.out]; exact HFIN.out⟩
              case measure => simp [intOf]; omega
        · have hf : ans = (out, 0, none) := by
            have e : out = dec64 s.data.toList := by rw [← HACC.out, List.drop_eq_nil_of_le (by rw [HS.out]; omega)]; simp [dec64]
            rw [HA.out, if_neg hbig, if_pos HW0.out, e]
          have HF2 := Lib.hid hf
          have hconv := conv_own hown
          have hh := (fW_row w).below hbel
          obtain ⟨c0, c1, f0, f1⟩ := hh.cells
          have HH := Lib.hid hh
          have hb := end_below (fW_below hbel) 0 0
          clear hf hh hcs
          go_wp2_with fail
          refine ret_told rfl w.heap.size 0 0 (.string ⟨out.toArray⟩) (fault_set HH.out _ _) rfl rfl rfl ⟨?_, hb⟩
          rw [HF2.out]; rfl
    · obtain ⟨N, hN⟩ : ∃ N : Nat, w64 s.size 0 s.data.toList = N := ⟨(w64 s.size 0 s.data.toList).toNat, by omega⟩
      rw [hN] at hW
      have HW := Lib.hid hW
      have HP := Lib.hid fun W => faultPlaced_any 3 (N : Int) W
      have hf : ans = ([], 3, some (N : Int)) := by rw [HA.out, if_neg hbig, if_neg hw, hN]
      have HF := Lib.hid hf
      clear hW hge hw hN hf
      go_enter Tryz.func41, Tryz.ntmps41
      go_wp2_with fail
      refine (HW.out _).mono ?_
      rintro e w0 ⟨rfl, rfl⟩
      go_wp2_with fail
      refine (HP.out _).mono ?_
      rintro e w1 ⟨rfl, b1⟩
      have hh := (fW_row w).below b1
      obtain ⟨c0, c1, f0, f1⟩ := hh.cells
      have HH := Lib.hid hh
      have hb := end_below (fW_below b1) 3 (N : Int)
      clear hh
      go_wp2_with fail
      refine ret_told rfl w.heap.size 3 (N : Int) (.string ⟨#[]⟩) (fault_set HH.out _ _) rfl rfl rfl ⟨?_, hb⟩
      rw [HF.out]; rfl
end Go.Proofs.YtjmgkallgflcdaaGreatDoor
