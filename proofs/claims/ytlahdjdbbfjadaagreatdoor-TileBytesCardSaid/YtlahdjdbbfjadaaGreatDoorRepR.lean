/-
  (*strings.byteStringReplacer).Replace by its contract: x and / are taken out.
-/
import Derived.Test.YtlahdjdbbfjadaaGreatDoorRepP
import Derived.Test.YtlahdjdbbfjadaaGreatDoorShelf
namespace Go.Proofs.YtlahdjdbbfjadaaGreatDoor
open Go.RowKit

/-- How many of the first k bytes stay. -/
def stay (l : List UInt8) (k : Nat) : Nat := ((l.take k).filter keepX).length
theorem stay_le (l : List UInt8) (k : Nat) : stay l k ≤ k := by
  unfold stay
  have h1 := List.length_filter_le keepX (l.take k)
  rw [List.length_take] at h1
  omega
theorem take_succT {l : List UInt8} {k : Nat} {c : UInt8} (h : l[k]? = some c) : l.take (k + 1) = l.take k ++ [c] := by rw [List.take_add_one, h]; rfl
theorem stay_succ {l : List UInt8} {k : Nat} {c : UInt8} (h : l[k]? = some c) : stay l (k + 1) = stay l k + if keepX c = true then 1 else 0 := by
  unfold stay
  rw [take_succT h, List.filter_append, List.length_append]
  congr 1
  by_cases hc : keepX c = true
  · rw [if_pos hc, List.filter_cons_of_pos hc]; rfl
  · rw [if_neg hc, List.filter_cons_of_neg hc]; rfl
theorem stay_mono (l : List UInt8) (k : Nat) : stay l k ≤ (l.filter keepX).length := by
  unfold stay
  have : ((l.take k).filter keepX).length + ((l.drop k).filter keepX).length = (l.filter keepX).length := by
    rw [← List.length_append, ← List.filter_append, List.take_append_drop]
  omega
theorem stay_all {l : List UInt8} (h : (l.filter keepX).length = l.length) : l.filter keepX = l := by
  rw [List.filter_eq_self]
  exact List.length_filter_eq_length_iff.1 h
theorem count_two : ∀ l : List UInt8, (Lib.countByte l 47 : Int) + Lib.countByte l 120 + (l.filter keepX).length = l.length
  | [] => by simp [Lib.countByte]
  | c :: l => by
    have ih := count_two l
    by_cases h1 : c = 47
    · subst h1
      rw [List.filter_cons_of_neg (by decide)]
      simp [Lib.countByte] at ih ⊢
      omega
    · by_cases h2 : c = 120
      · subst h2
        rw [List.filter_cons_of_neg (by decide)]
        simp [Lib.countByte] at ih ⊢
        omega
      · rw [List.filter_cons_of_pos (by simp [keepX, h1, h2])]
        simp [Lib.countByte, h1, h2] at ih ⊢
        omega


def BLoop (l : List UInt8) (vn va vi : Value) : Prop := ∃ k : Nat, k ≤ l.length ∧ vi = .int .i64 (k : Int) ∧ vn = .int .i64 ((l.length : Int) - k + stay l k) ∧ va = .bool (decide (stay l k < k))
def ALoop (s : ByteArray) (w : World) (vn va vi : Value) (wr : World) : Prop := Below w.heap.size w wr ∧
  ((vi = .int .i64 0 ∧ vn = .int .i64 (s.size : Int) ∧ va = .bool false) ∨ (vi = .int .i64 1 ∧ vn = .int .i64 ((s.size : Int) - Lib.countByte s.data.toList 47) ∧ va = .bool (decide (0 < Lib.countByte s.data.toList 47))) ∨
   (vi = .int .i64 2 ∧ vn = .int .i64 ((s.size : Int) - Lib.countByte s.data.toList 47 - Lib.countByte s.data.toList 120) ∧ va = .bool (decide (0 < Lib.countByte s.data.toList 47) || decide (0 < Lib.countByte s.data.toList 120))))
def TailRel (l : List UInt8) (w0 : World) (vj vi : Value) (wr : World) : Prop := ∃ k : Nat, k ≤ l.length ∧ vi = .int .i64 (k : Int) ∧ vj = .int .i64 (stay l k : Int) ∧ RowB wr w0.heap.size ((l.take k).filter keepX ++ List.replicate ((l.filter keepX).length - stay l k) 0) ∧ Below w0.heap.size w0 wr
theorem str_valT (s : ByteArray) : Value.string s = .string ⟨s.data.toList.toArray⟩ := by cases s; simp
theorem copy_none (ao : Option Addr) (d c : Nat) (a : Addr) (cap : Nat) (ty : TypeId) (W : World) : (Builtin.copy_ #[81, 81] ty #[.slice ao d c, .slice (some a) 0 cap]).run Tryz.prog W = .ok (goInt 0) W := by
  obtain ⟨i0, hi, _, _, _⟩ := info_parts Tryz.infoByte
  cases ao <;> simp [Builtin.copy_, run_underlying Tryz.underlying81, Builtin.lenOf, Builtin.firstCells, sizeOf, typeInfo, hi, loadCells, loadCellsFrom, storeCells, Result.andThen]
set_option maxHeartbeats 4000000 in
set_option maxRecDepth 100000 in
theorem bsr_any (sb : Nat) (s : ByteArray) (w : World) (hb : Bsr w sb) (hs : s.size ≤ 140737488351232) :
    Calls Tryz.prog 283 #[.pointer (some ⟨sb, 0, none⟩), .string s] w fun e w' => e = .returned (.string ⟨(s.data.toList.filter keepX).toArray⟩) ∧ Below w.heap.size w w' := by
  obtain ⟨tb, cap, h256, t0, t1⟩ := hb.tr
  have hsl := size_listT s
  have HB := Lib.hid hb
  have HSL := Lib.hid hsl
  have hnl := List.length_filter_le keepX s.data.toList
  obtain ⟨n, hn⟩ : ∃ n, (s.data.toList.filter keepX).length = n := ⟨_, rfl⟩
  rw [hn, hsl] at hnl
  have HN := Lib.hid hn
  have HNL := Lib.hid hnl
  have hn64 : n ≤ 140737488351232 := by omega
  have hct := count_two s.data.toList
  rw [hn, hsl] at hct
  have HCT := Lib.hid hct
  clear hb hsl hnl hn hct
  by_cases h16 : 16 ≤ s.size
  · have h16' : (2 * 8 : Int) ≤ s.size := by omega
    have h16n : (16 : Int) ≤ s.size := by omega
    obtain ⟨A, hA⟩ : ∃ A, Lib.countByte s.data.toList 47 = A := ⟨_, rfl⟩
    obtain ⟨B, hB⟩ : ∃ B, Lib.countByte s.data.toList 120 = B := ⟨_, rfl⟩
    have hAB : (A : Int) + B + n = s.size := by rw [← hA, ← hB]; exact HCT.out
    have HA := Lib.hid hA
    have HBB := Lib.hid hB
    have hAc := fun W => (Tryz.strings_Count_one s 47 W).mono (R' := fun e w' => e = .returned (.int .i64 (A : Int)) ∧ w' = W) (fun e w' h => by rw [← hA]; exact h)
    have hBc := fun W => (Tryz.strings_Count_one s 120 W).mono (R' := fun e w' => e = .returned (.int .i64 (B : Int)) ∧ w' = W) (fun e w' h => by rw [← hB]; exact h)
    have HAC := Lib.hid hAc
    have HBC := Lib.hid hBc
    clear hAc hBc hA hB
    go_enter Tryz.func283, Tryz.ntmps283
    go_wp2_with fail
    go_loopw [5, 6, 32] (fun vn va vi wr => ALoop s w vn va vi wr) (fun _ _ vi _ => 2 - (intOf vi).toNat)
    case atStart => exact ⟨Below.refl _ _, .inl ⟨rfl, rfl, rfl⟩⟩
    case round =>
      obtain ⟨hbel, hrel⟩ := hrel
      rcases hrel with ⟨rfl, rfl, rfl⟩ | ⟨rfl, rfl, rfl⟩ | ⟨rfl, rfl, rfl⟩
      · have p0 := below_cell hbel t0
        obtain ⟨ad, cp, hcell0⟩ := HB.out.rep 47 (by decide)
        have hcell : wr.cell? ⟨sb, 47, none⟩ = some (.slice (some ad) 0 cp) := below_cell hbel hcell0
        have xk : ∀ W, (Instr.index 9 (.string ⟨#[47]⟩) (.int .i64 0)).run Tryz.prog W = .ok (.int .u8 47) W := fun W => run_idx Tryz.underlying9 ⟨#[47]⟩ 0 47 rfl 0 rfl .i64 W
        have HBL := Lib.hid hbel
        clear hbel hcell0
        skip
        by_cases h0 : A = 0
        · have h0' : ((A : Int) == 0) = true := by rw [beq_iff_eq]; omega
          go_wp2_with fail
          refine (HAC.out _).mono ?_
          rintro e w1 ⟨rfl, rfl⟩
          go_wp2_with fail
          go_roundw
          case rel => exact ⟨HBL.out, .inr (.inl ⟨rfl, by rw [HA.out]; go_num, by rw [HA.out, h0]; rfl⟩)⟩
          case measure => simp [intOf]
        · have h0' : ((A : Int) == 0) = false := by rw [beq_eq_false_iff_ne]; omega
          go_wp2_with fail
          refine (HAC.out _).mono ?_
          rintro e w1 ⟨rfl, rfl⟩
          go_wp2_with fail
          go_quiet (fail)
          go_wp2_with fail
          go_roundw
          case rel => exact ⟨below_drewN HBL.out _, .inr (.inl ⟨rfl, by rw [HA.out]; go_num, by rw [HA.out]; simp; omega⟩)⟩
          case measure => simp [intOf]
      · have p0 := below_cell hbel t1
        obtain ⟨ad, cp, hcell0⟩ := HB.out.rep 120 (by decide)
        have hcell : wr.cell? ⟨sb, 120, none⟩ = some (.slice (some ad) 0 cp) := below_cell hbel hcell0
        have xk : ∀ W, (Instr.index 9 (.string ⟨#[120]⟩) (.int .i64 0)).run Tryz.prog W = .ok (.int .u8 120) W := fun W => run_idx Tryz.underlying9 ⟨#[120]⟩ 0 120 rfl 0 rfl .i64 W
        have HBL := Lib.hid hbel
        clear hbel hcell0
        rw [HA.out]
        by_cases h0 : B = 0
        · have h0' : ((B : Int) == 0) = true := by rw [beq_iff_eq]; omega
          go_wp2_with fail
          refine (HBC.out _).mono ?_
          rintro e w1 ⟨rfl, rfl⟩
          go_wp2_with fail
          go_roundw
          case rel => exact ⟨HBL.out, .inr (.inr ⟨rfl, by rw [HA.out, HBB.out]; go_num, by rw [HA.out, HBB.out, h0]; simp⟩)⟩
          case measure => simp [intOf]
        · have h0' : ((B : Int) == 0) = false := by rw [beq_eq_false_iff_ne]; omega
          go_wp2_with fail
          refine (HBC.out _).mono ?_
          rintro e w1 ⟨rfl, rfl⟩
          go_wp2_with fail
          go_quiet (fail)
          go_wp2_with fail
          go_roundw
          case rel => exact ⟨below_drewN HBL.out _, .inr (.inr ⟨rfl, by rw [HA.out, HBB.out]; go_num, by rw [HA.out, HBB.out]; simp; omega⟩)⟩
          case measure => simp [intOf]
      · rename World => wA
        have hnum : ((s.size : Int) - Lib.countByte s.data.toList 47 - Lib.countByte s.data.toList 120) = (n : Int) := by rw [HA.out, HBB.out]; omega
        have hdec : (decide (0 < Lib.countByte s.data.toList 47) || decide (0 < Lib.countByte s.data.toList 120)) = decide (n < s.size) := by
          rw [HA.out, HBB.out, Bool.eq_iff_iff]
          simp only [Bool.or_eq_true, decide_eq_true_eq]
          omega
        rw [hnum, hdec]
        clear hnum hdec

        have hW : Below w.heap.size w wA := hbel
        have hBs := HB.out.below hW
        have HW := Lib.hid hW
        have HBS := Lib.hid hBs
        clear hW hBs
        by_cases hall : n < s.size
        · rw [show decide (n < s.size) = true from decide_eq_true hall]
          have hmk := mk_row wA n (by omega)
          have hrow := mk_rowB wA n
          have HROW := Lib.hid hrow
          generalize hcs : (Lib.byteCells (List.replicate n 0)).toArray = cs0 at hmk HROW
          clear hcs hrow
          go_wp2_with fail
          go_loopw [13, 14] (fun vj vi wr => TailRel s.data.toList wA vj vi wr) (fun _ vi _ => s.size - (intOf vi).toNat)
          case atStart =>
            refine ⟨0, by omega, rfl, by simp [stay], ?_, below_one _ _⟩
            rw [HN.out]
            simpa [stay] using HROW.out
          case round =>
            rename World => wv
            obtain ⟨i, hi, rfl, rfl, hrow, hbel⟩ := hrel
            rw [HSL.out] at hi
            rw [HN.out] at hrow
            have hsz5 := hbel.size
            have hsti := stay_le s.data.toList i
            have hstn : stay s.data.toList i ≤ n := by rw [← HN.out]; exact stay_mono _ _
            by_cases hil : i < s.size
            · have hil' : (i : Int) < s.size := by omega
              obtain ⟨c, hc⟩ : ∃ c, s.data.toList[i]? = some c := ⟨_, List.getElem?_eq_getElem (by rw [HSL.out]; exact hil)⟩
              have xk := fun W => run_idx (P := Tryz.prog) Tryz.underlying9 s i c hc (i : Int) rfl .i64 W
              have hc256 := UInt8.toNat_lt c
              have hss := stay_succ hc
              have hta := take_succT hc
              have hn1 : stay s.data.toList (i + 1) ≤ n := by rw [← HN.out]; exact stay_mono _ _
              have HTA := Lib.hid hta
              have HSS := Lib.hid hss
              have HR := Lib.hid hrow
              have HBL := Lib.hid hbel
              cases hkc : keepX c with
              | true =>
                have hcell := below_cell hbel (HBS.out.non c hkc)
                rw [hkc, if_pos rfl] at hss
                obtain ⟨m, hm⟩ : ∃ m, n - stay s.data.toList i = m + 1 := ⟨n - stay s.data.toList i - 1, by omega⟩
                have hf := hrow.frozen (stay s.data.toList i)
                have hlen : ((s.data.toList.take i).filter keepX).length = stay s.data.toList i := rfl
                have hcj := hrow.cell (i := stay s.data.toList i) (c := 0) (by rw [List.getElem?_append_right (by omega), hlen, Nat.sub_self, hm]; rfl)
                have hne0 := nil_ne
                generalize hq : stay s.data.toList i = q at *
                have hqn : (q : Int) < n := by omega
                have HKC := Lib.hid hkc
                clear hta hss hrow hbel hc hkc
                go_wp2_with fail
                go_roundw
                case rel =>
                  refine ⟨i + 1, by rw [HSL.out]; omega, by go_num, ?_, ?_, HBL.out.setCell (p := ⟨_, _, none⟩) (Nat.le_refl _) _⟩
                  · rw [HSS.out, HKC.out, if_pos rfl]; go_num
                  · have h := HR.out.set q c
                    rw [List.set_append_right _ _ (by omega), hlen, Nat.sub_self, hm, List.replicate_succ, List.set_cons_zero] at h
                    rw [HTA.out, List.filter_append, HN.out, HSS.out, HKC.out, if_pos rfl, show n - (q + 1) = m by omega, List.filter_cons_of_pos HKC.out, List.append_assoc]
                    exact h
                case measure => simp [intOf]; omega
              | false =>
                obtain ⟨ad, cp, hcell0⟩ := HBS.out.rep c hkc
                have hcell := below_cell hbel hcell0
                have hne1 := some_ne
                have hcp := copy_none
                have hkf : keepX c ≠ true := by rw [hkc]; decide
                generalize hq : stay s.data.toList i = q at *
                have hqn : (q : Int) ≤ n := by omega
                have HKC := Lib.hid hkf
                clear hta hss hrow hbel hc hkc hkf hcell0
                go_wp2_with fail
                go_quiet (fail)
                go_wp2_with fail
                go_roundw
                case rel =>
                  have hr := HR.out
                  refine ⟨i + 1, by rw [HSL.out]; omega, by go_num, ?_, ?_, below_drewN HBL.out _⟩
                  · rw [HSS.out, if_neg HKC.out]; go_num
                  · rw [HTA.out, List.filter_append, HN.out, HSS.out, if_neg HKC.out, List.filter_cons_of_neg HKC.out]
                    simpa [RowB] using hr
                case measure => simp [intOf]; omega
            · have hil' : ¬ (i : Int) < s.size := by omega
              obtain rfl : i = s.size := by omega
              have htk : s.data.toList.take s.size = s.data.toList := List.take_of_length_le (by rw [HSL.out]; exact Nat.le_refl _)
              have hsn : stay s.data.toList s.size = n := by unfold stay; rw [htk]; exact HN.out
              rw [htk, hsn, Nat.sub_self] at hrow
              have hconv := hrow.conv 0 n n (by simp; rw [HN.out]; exact Nat.le_refl _)
              have hend : ((s.data.toList.filter keepX ++ List.replicate 0 0).drop 0).take n = s.data.toList.filter keepX := by
                rw [List.drop_zero, List.replicate_zero, List.append_nil]
                exact List.take_of_length_le (by rw [HN.out]; exact Nat.le_refl _)
              rw [hend] at hconv
              have HBL := Lib.hid hbel
              clear hrow hbel hend htk hsn
              go_wp2_with fail
              go_ret
              exact ⟨rfl, below_trans HW.out HBL.out⟩
        · rw [show decide (n < s.size) = false from decide_eq_false hall]
          go_wp2_with fail
          go_ret
          refine ⟨?_, HW.out⟩
          have hnn : (s.data.toList.filter keepX).length = s.data.toList.length := by rw [HN.out, HSL.out]; have := HNL.out; omega
          rw [stay_all hnn]
          exact congrArg Ending.returned (str_valT s)
  · have h16' : ¬ (16 : Int) ≤ s.size := by omega
    go_enter Tryz.func283, Tryz.ntmps283
    go_wp2_with fail
    go_loop [5, 6, 10] (fun vn va vi => BLoop s.data.toList vn va vi) (fun _ _ vi => s.size - (intOf vi).toNat)
    case atStart =>
      refine ⟨0, by omega, rfl, ?_, ?_⟩
      · rw [HSL.out]; simp [stay]
      · simp [stay]
    case round =>
      obtain ⟨k, hk, rfl, rfl, rfl⟩ := hrel
      rw [HSL.out] at hk ⊢
      have hst := stay_le s.data.toList k
      by_cases hlt : k < s.size
      · have hl' : (k : Int) < s.size := by omega
        obtain ⟨c, hc⟩ : ∃ c, s.data.toList[k]? = some c := ⟨_, List.getElem?_eq_getElem (by rw [HSL.out]; exact hlt)⟩
        have xk := fun W => run_idx (P := Tryz.prog) Tryz.underlying9 s k c hc (k : Int) rfl .i64 W
        have hc256 := UInt8.toNat_lt c
        have hss := stay_succ hc
        have HSS := Lib.hid hss
        clear hss hc
        cases hkc : keepX c with
        | true =>
          have hcell := HB.out.non c hkc
          have hne0 := nil_ne
          have HKC := Lib.hid hkc
          clear hkc
          generalize hq : stay s.data.toList k = q at *
          go_wp2_with fail
          go_round
          case rel => exact ⟨k + 1, by rw [HSL.out]; omega, by go_num, by rw [HSS.out, HKC.out, if_pos rfl, HSL.out]; go_num, by rw [HSS.out, HKC.out, if_pos rfl]; exact congrArg Value.bool (decide_eq_decide.2 (by omega))⟩
          case measure => simp [intOf]; omega
        | false =>
          obtain ⟨ad, cp, hcell⟩ := HB.out.rep c hkc
          have hne1 := some_ne
          have hkf : keepX c ≠ true := by rw [hkc]; decide
          have HKC := Lib.hid hkf
          clear hkc hkf
          generalize hq : stay s.data.toList k = q at *
          go_wp2_with fail
          go_round
          case rel => exact ⟨k + 1, by rw [HSL.out]; omega, by go_num, by rw [HSS.out, if_neg HKC.out, HSL.out]; go_num, by rw [HSS.out, if_neg HKC.out]; exact congrArg Value.bool (decide_eq_true (by omega)).symm⟩
          case measure => simp [intOf]; omega
      · have hl' : ¬ (k : Int) < s.size := by omega
        obtain rfl : k = s.size := by omega
        have htk : s.data.toList.take s.size = s.data.toList := List.take_of_length_le (by rw [HSL.out]; exact Nat.le_refl _)
        have hsn : stay s.data.toList s.size = n := by unfold stay; rw [htk]; exact HN.out
        rw [hsn, show (s.size : Int) - s.size + n = (n : Int) by omega]
        clear htk hsn

        have hW : Below w.heap.size w w := Below.refl _ _
        have hBs := HB.out.below hW
        have HW := Lib.hid hW
        have HBS := Lib.hid hBs
        clear hW hBs
        by_cases hall : n < s.size
        · rw [show decide (n < s.size) = true from decide_eq_true hall]
          have hmk := mk_row w n (by omega)
          have hrow := mk_rowB w n
          have HROW := Lib.hid hrow
          generalize hcs : (Lib.byteCells (List.replicate n 0)).toArray = cs0 at hmk HROW
          clear hcs hrow
          go_wp2_with fail
          go_loopw [13, 14] (fun vj vi wr => TailRel s.data.toList w vj vi wr) (fun _ vi _ => s.size - (intOf vi).toNat)
          case atStart =>
            refine ⟨0, by omega, rfl, by simp [stay], ?_, below_one _ _⟩
            rw [HN.out]
            simpa [stay] using HROW.out
          case round =>
            rename World => wv
            obtain ⟨i, hi, rfl, rfl, hrow, hbel⟩ := hrel
            rw [HSL.out] at hi
            rw [HN.out] at hrow
            have hsz5 := hbel.size
            have hsti := stay_le s.data.toList i
            have hstn : stay s.data.toList i ≤ n := by rw [← HN.out]; exact stay_mono _ _
            by_cases hil : i < s.size
            · have hil' : (i : Int) < s.size := by omega
              obtain ⟨c, hc⟩ : ∃ c, s.data.toList[i]? = some c := ⟨_, List.getElem?_eq_getElem (by rw [HSL.out]; exact hil)⟩
              have xk := fun W => run_idx (P := Tryz.prog) Tryz.underlying9 s i c hc (i : Int) rfl .i64 W
              have hc256 := UInt8.toNat_lt c
              have hss := stay_succ hc
              have hta := take_succT hc
              have hn1 : stay s.data.toList (i + 1) ≤ n := by rw [← HN.out]; exact stay_mono _ _
              have HTA := Lib.hid hta
              have HSS := Lib.hid hss
              have HR := Lib.hid hrow
              have HBL := Lib.hid hbel
              cases hkc : keepX c with
              | true =>
                have hcell := below_cell hbel (HBS.out.non c hkc)
                rw [hkc, if_pos rfl] at hss
                obtain ⟨m, hm⟩ : ∃ m, n - stay s.data.toList i = m + 1 := ⟨n - stay s.data.toList i - 1, by omega⟩
                have hf := hrow.frozen (stay s.data.toList i)
                have hlen : ((s.data.toList.take i).filter keepX).length = stay s.data.toList i := rfl
                have hcj := hrow.cell (i := stay s.data.toList i) (c := 0) (by rw [List.getElem?_append_right (by omega), hlen, Nat.sub_self, hm]; rfl)
                have hne0 := nil_ne
                generalize hq : stay s.data.toList i = q at *
                have hqn : (q : Int) < n := by omega
                have HKC := Lib.hid hkc
                clear hta hss hrow hbel hc hkc
                go_wp2_with fail
                go_roundw
                case rel =>
                  refine ⟨i + 1, by rw [HSL.out]; omega, by go_num, ?_, ?_, HBL.out.setCell (p := ⟨_, _, none⟩) (Nat.le_refl _) _⟩
                  · rw [HSS.out, HKC.out, if_pos rfl]; go_num
                  · have h := HR.out.set q c
                    rw [List.set_append_right _ _ (by omega), hlen, Nat.sub_self, hm, List.replicate_succ, List.set_cons_zero] at h
                    rw [HTA.out, List.filter_append, HN.out, HSS.out, HKC.out, if_pos rfl, show n - (q + 1) = m by omega, List.filter_cons_of_pos HKC.out, List.append_assoc]
                    exact h
                case measure => simp [intOf]; omega
              | false =>
                obtain ⟨ad, cp, hcell0⟩ := HBS.out.rep c hkc
                have hcell := below_cell hbel hcell0
                have hne1 := some_ne
                have hcp := copy_none
                have hkf : keepX c ≠ true := by rw [hkc]; decide
                generalize hq : stay s.data.toList i = q at *
                have hqn : (q : Int) ≤ n := by omega
                have HKC := Lib.hid hkf
                clear hta hss hrow hbel hc hkc hkf hcell0
                go_wp2_with fail
                go_quiet (fail)
                go_wp2_with fail
                go_roundw
                case rel =>
                  have hr := HR.out
                  refine ⟨i + 1, by rw [HSL.out]; omega, by go_num, ?_, ?_, below_drewN HBL.out _⟩
                  · rw [HSS.out, if_neg HKC.out]; go_num
                  · rw [HTA.out, List.filter_append, HN.out, HSS.out, if_neg HKC.out, List.filter_cons_of_neg HKC.out]
                    simpa [RowB] using hr
                case measure => simp [intOf]; omega
            · have hil' : ¬ (i : Int) < s.size := by omega
              obtain rfl : i = s.size := by omega
              have htk : s.data.toList.take s.size = s.data.toList := List.take_of_length_le (by rw [HSL.out]; exact Nat.le_refl _)
              have hsn : stay s.data.toList s.size = n := by unfold stay; rw [htk]; exact HN.out
              rw [htk, hsn, Nat.sub_self] at hrow
              have hconv := hrow.conv 0 n n (by simp; rw [HN.out]; exact Nat.le_refl _)
              have hend : ((s.data.toList.filter keepX ++ List.replicate 0 0).drop 0).take n = s.data.toList.filter keepX := by
                rw [List.drop_zero, List.replicate_zero, List.append_nil]
                exact List.take_of_length_le (by rw [HN.out]; exact Nat.le_refl _)
              rw [hend] at hconv
              have HBL := Lib.hid hbel
              clear hrow hbel hend htk hsn
              go_wp2_with fail
              go_ret
              exact ⟨rfl, below_trans HW.out HBL.out⟩
        · rw [show decide (n < s.size) = false from decide_eq_false hall]
          go_wp2_with fail
          go_ret
          refine ⟨?_, HW.out⟩
          have hnn : (s.data.toList.filter keepX).length = s.data.toList.length := by rw [HN.out, HSL.out]; have := HNL.out; omega
          rw [stay_all hnn]
          exact congrArg Ending.returned (str_valT s)
end Go.Proofs.YtlahdjdbbfjadaaGreatDoor
