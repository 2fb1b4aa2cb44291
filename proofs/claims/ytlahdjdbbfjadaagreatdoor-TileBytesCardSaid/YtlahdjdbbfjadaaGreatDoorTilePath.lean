/-
  tile.Path by its contract: a tile's name, or ErrArg.
-/
import Derived.Test.YtlahdjdbbfjadaaGreatDoorTileRow
import Derived.Test.YtlahdjdbbfjadaaGreatDoorTileOf
import Derived.Test.YtlahdjdbbfjadaaGreatDoorFmt
import Derived.BigQuiet
namespace Go.Proofs.YtlahdjdbbfjadaaGreatDoor
open Go.RowKit

/-- What Path answers. -/
def pathV (S : Nat → Addr) (L I : Nat) (W : Int) : Value := .tuple (if MayT L I W then #[.string ⟨(nameT L I W.toNat).toArray⟩, .nilIface] else #[.string ⟨#[]⟩, errV S 2])
/-- The row while it is filled with '0'. -/
def FillRel (b n : Nat) (w0 : World) (vi : Value) (wr : World) : Prop := ∃ k : Nat, k ≤ n ∧ vi = .int .i64 (k : Int) ∧ RowB wr b (List.replicate k 48 ++ List.replicate (n - k) 0) ∧ Below w0.heap.size w0 wr
theorem fill_set (k m : Nat) : (List.replicate k (48 : UInt8) ++ List.replicate (m + 1) 0).set k 48 = List.replicate (k + 1) 48 ++ List.replicate m 0 := by
  rw [List.set_append_right _ _ (by simp), List.length_replicate, Nat.sub_self, List.replicate_succ, List.set_cons_zero, List.replicate_succ', List.append_assoc]
  rfl
/-- The name while it is put together. -/
def ThrRel (b n : Nat) (P full : List UInt8) (va vs : Value) : Prop := ∃ (k m : Nat) (s : ByteArray), 3 * k + 3 + 3 * m = n ∧ va = .slice (some ⟨b, 3 * k, none⟩) (3 + 3 * m) (3 + 3 * m) ∧ vs = .string s ∧ s.data.toList ++ thr m (P.drop (3 * k)) = full ∧ s.size ≤ 50 + 5 * k
theorem ba_app (a b : ByteArray) : (a ++ b).data.toList = a.data.toList ++ b.data.toList := by simp [ByteArray.data_append]
theorem str_val {s : ByteArray} {l : List UInt8} (h : s.data.toList = l) : Value.string s = .string ⟨l.toArray⟩ := by subst h; cases s; simp
def sizeV : Value → Nat
  | .slice _ n _ => n
  | _ => 0
theorem drop3 (P : List UInt8) (k : Nat) : (P.drop (3 * k)).drop 3 = P.drop (3 * (k + 1)) := by rw [List.drop_drop, Nat.mul_add]
theorem str_app (a b : List UInt8) : (⟨a.toArray⟩ : ByteArray) ++ ⟨b.toArray⟩ = ⟨(a ++ b).toArray⟩ := by
  apply ByteArray.ext
  simp [ByteArray.data_append]

set_option maxHeartbeats 2000000 in
set_option maxRecDepth 100000 in
theorem path_any (S : Nat → Addr) (L I : Nat) (W : Int) (hL : L ≤ 255) (hI : I ≤ 18446744073709551615) (w : World) (hB : Base S w) (htab : Tab w) :
    Calls Tryz.prog 84 #[.agg (tileV L I W)] w fun e w' => e = .returned (pathV S L I W) ∧ Below w.heap.size w w' := by
  have HM := Lib.hid fun X => tileMay_any L I W hL hI X
  unfold tileV at *
  by_cases h : MayT L I W
  · rw [decide_eq_true h] at HM
    obtain ⟨k, rfl⟩ : ∃ k : Nat, W = k := ⟨W.toNat, by have := h.2.1; omega⟩
    have hV : pathV S L I k = .tuple #[.string ⟨(nameT L I k).toArray⟩, .nilIface] := by unfold pathV; rw [if_pos h]; rfl
    generalize pathV S L I k = pv at hV ⊢
    have HV := Lib.hid hV
    have hbd := h
    obtain ⟨hL7, hW1, hW2, hI55, _⟩ := hbd
    have hpl := padZ_len (Lib.decDigits I) (decDigits_ne I)
    have hdl : (Lib.decDigits I).length ≤ 20 := by rw [Lib.decDigits_length]; exact nDigits_20 I hI
    have hd0 : 0 < (Lib.decDigits I).length := by rw [Lib.decDigits_length]; exact Lib.nDigits_pos I
    obtain ⟨q, hq⟩ : ∃ q, (Lib.decDigits I).length = q := ⟨_, rfl⟩
    have hsz : (⟨(Lib.decDigits I).toArray⟩ : ByteArray).size = q := by show (Lib.decDigits I).toArray.size = q; simpa using hq
    have HPL := Lib.hid hpl
    have HQ := Lib.hid hq
    have HTAB := Lib.hid htab
    rw [hq] at hdl hd0
    clear hV hpl hq hB htab h
    go_enter Tryz.func84, Tryz.ntmps84
    go_wp2_with fail
    refine (HM.out _).mono ?_
    rintro e w1 ⟨rfl, b1⟩
    have h0 := below_heap b1 (heap_one w _)
    have hb1 := below_trans (below_one w _) b1
    obtain ⟨c0, c1, c2⟩ := cells3 h0
    have H0 := Lib.hid h0
    have HB1 := Lib.hid hb1
    clear h0 hb1 b1
    go_wp2_with fail
    have HDC := Lib.hid (decimal_any I hI w1 (tab_below HTAB.out HB1.out))
    have hdl2 : (⟨(Lib.decDigits I).toArray⟩ : ByteArray).data.toList = Lib.decDigits I := by simp
    generalize (⟨(Lib.decDigits I).toArray⟩ : ByteArray) = ds at *
    have HDS := Lib.hid hdl2
    clear hdl2
    refine HDC.out.mono ?_
    rintro e w2 ⟨rfl, b2⟩
    have hb2 := below_trans HB1.out b2
    have h0 := below_heap b2 H0.out
    obtain ⟨c0, c1, c2⟩ := cells3 h0
    have H0 := Lib.hid h0
    have HB2 := Lib.hid hb2
    obtain ⟨n, hn⟩ : ∃ n, (q + 2) / 3 * 3 = n := ⟨_, rfl⟩
    have hmk : (Instr.makeSlice 81 (.int .i64 (((q : Int) + 2) / 3 * 3)) (.int .i64 (((q : Int) + 2) / 3 * 3))).run Tryz.prog w2 = .ok (.slice (some ⟨w2.heap.size, 0, none⟩) n n) (w2.alloc (.cells (Lib.byteCells (List.replicate n 0)).toArray 5)) := by
      rw [show ((q : Int) + 2) / 3 * 3 = (n : Int) by omega]
      exact mk_row w2 n (by omega)
    have HROW := Lib.hid (mk_rowB w2 n)
    clear h0 hb2 b2 HB1
    have HNQ := Lib.hid hn
    have hn3 : q ≤ n ∧ n ≤ q + 2 ∧ n ≤ 30 := by omega
    clear hn
    obtain ⟨hn3, hn4, hn5⟩ := hn3
    generalize hcs : (Lib.byteCells (List.replicate n 0)).toArray = cs0 at hmk HROW
    clear hcs
    go_wp2_with fail
    go_loopw [23] (fun vi wr => FillRel w2.heap.size n w2 vi wr) (fun vi _ => n - (intOf vi).toNat)
    case atStart => exact ⟨0, by omega, rfl, by simpa using HROW.out, below_one _ _⟩
    case round =>
      obtain ⟨j, hj, rfl, hrow, hbel⟩ := hrel
      have hwsz := hbel.size
      by_cases hlt : j < n
      · have hl' : (j : Int) < n := by omega
        obtain ⟨m, hm⟩ : ∃ m, n - j = m + 1 := ⟨n - j - 1, by omega⟩
        rw [hm] at hrow
        have hc := hrow.cell (i := j) (c := 0) (by simp)
        have hf := hrow.frozen j
        have HR := Lib.hid hrow
        have HBL := Lib.hid hbel
        clear hrow hbel
        go_wp2_with fail
        go_roundw
        case rel =>
          refine ⟨j + 1, by omega, by go_num, ?_, HBL.out.setCell (p := ⟨w2.heap.size, j, none⟩) (Nat.le_refl _) _⟩
          have := HR.out.set j 48
          rw [fill_set] at this
          rw [show n - (j + 1) = m by omega]
          exact this
        case measure => simp [intOf]; omega
      · have hl' : ¬ (j : Int) < n := by omega
        obtain rfl : j = n := by omega
        obtain ⟨p, rfl⟩ : ∃ p, j = p + q := ⟨j - q, by omega⟩
        have hcopy := fun ty => hrow.copy p q q ds hsz (by simp) ty
        have hrow2 : RowB (wr.setRow w2.heap.size (Lib.byteCells (padZ (Lib.decDigits I))).toArray) w2.heap.size (padZ (Lib.decDigits I)) := hrow.setRow
        have hbel2 := below_setRow hbel (Nat.le_refl w2.heap.size) (Lib.byteCells (padZ (Lib.decDigits I))).toArray
        have hpad : (List.replicate (p + q) (48 : UInt8) ++ List.replicate (p + q - (p + q)) 0).take p ++ ds.data.toList ++ (List.replicate (p + q) (48 : UInt8) ++ List.replicate (p + q - (p + q)) 0).drop (p + q) = padZ (Lib.decDigits I) := by
          have e1 : (List.replicate (p + q) (48 : UInt8) ++ List.replicate (p + q - (p + q)) 0) = List.replicate (p + q) 48 := by simp
          rw [e1, List.take_replicate, List.drop_replicate, HDS.out, Nat.sub_self, show min p (p + q) = p by omega]
          have hq := HQ.out
          have hn := HNQ.out
          unfold padZ
          rw [hq, show (3 - q % 3) % 3 = p by omega]
          simp
        rw [hpad] at hcopy
        generalize hcs : (Lib.byteCells (padZ (Lib.decDigits I))).toArray = cs1 at hcopy hrow2 hbel2
        clear hcs hpad hrow hbel
        generalize hW3 : wr.setRow w2.heap.size cs1 = w3 at hcopy hrow2 hbel2
        have h0 := below_heap hbel2 H0.out
        obtain ⟨c0, c1, c2⟩ := cells3 h0
        have hb3 := below_trans HB2.out hbel2
        have HR2 := Lib.hid hrow2
        have HB3 := Lib.hid hb3
        have H0 := Lib.hid h0
        have HDL := Lib.hid (decimal_any L (by omega) w3 (tab_below HTAB.out hb3))
        clear hrow2 hb3 h0 hbel2 hW3
        have hgl : (⟨(Lib.decDigits L).toArray⟩ : ByteArray).data.toList = Lib.decDigits L := by simp
        have hgz : (⟨(Lib.decDigits L).toArray⟩ : ByteArray).size ≤ 20 := by rw [← size_listT, hgl, Lib.decDigits_length]; exact nDigits_20 L (by omega)
        generalize (⟨(Lib.decDigits L).toArray⟩ : ByteArray) = gs at *
        have HGL := Lib.hid hgl
        clear hgl
        go_wp2_with fail
        refine HDL.out.mono ?_
        rintro e w4 ⟨rfl, b4⟩
        have hb4 := below_trans HB3.out b4
        have hr4 := HR2.out.below b4
        have h0 := below_heap b4 H0.out
        obtain ⟨c0, c1, c2⟩ := cells3 h0
        have HR4 := Lib.hid hr4
        have HB4 := Lib.hid hb4
        clear hb4 hr4 h0 b4
        have hpl := HPL.out
        rw [HQ.out, HNQ.out] at hpl
        go_wp2_with fail
        go_loop [5, 7] (fun va vs => ThrRel w2.heap.size (p + q) (padZ (Lib.decDigits I)) ([116, 105, 108, 101, 47] ++ (Lib.decDigits L ++ (47 :: threesL (Lib.decDigits I)))) va vs) (fun va _ => sizeV va)
        case atStart =>
          obtain ⟨m, hm⟩ : ∃ m, p + q = 3 + 3 * m := ⟨(p + q) / 3 - 1, by omega⟩
          refine ⟨0, m, _, by omega, by rw [hm], rfl, ?_, ?_⟩
          · rw [ba_app, ba_app, HGL.out, threesL, show (padZ (Lib.decDigits I)).length / 3 - 1 = m by omega]
            simp
          · rw [ByteArray.size_append, ByteArray.size_append]
            show 5 + gs.size + 1 ≤ _
            omega
        case round =>
          obtain ⟨j, m, s, hjm, rfl, rfl, hs, hsz2⟩ := hrel
          have HS := Lib.hid hs
          have hj11 : j ≤ 11 := by omega
          clear hs
          cases m with
          | succ m =>
            have hlen : 3 * j + 3 ≤ (padZ (Lib.decDigits I)).length := by omega
            have hconv := HR4.out.conv (3 * j) 3 3 hlen
            have hgl : (⟨(((padZ (Lib.decDigits I)).drop (3 * j)).take 3).toArray⟩ : ByteArray).data.toList = ((padZ (Lib.decDigits I)).drop (3 * j)).take 3 := by simp
            have hgz : (⟨(((padZ (Lib.decDigits I)).drop (3 * j)).take 3).toArray⟩ : ByteArray).size = 3 := by rw [← size_listT, hgl, List.length_take, List.length_drop]; omega
            generalize (⟨(((padZ (Lib.decDigits I)).drop (3 * j)).take 3).toArray⟩ : ByteArray) = g3 at hconv hgl hgz
            have HG := Lib.hid hgl
            have hl3 : (3 : Int) < 3 + 3 * ((m : Int) + 1) := by omega
            clear hgl
            go_wp2_with fail
            go_round
            case rel =>
              refine ⟨j + 1, m, _, by omega, ?_, rfl, ?_, ?_⟩
              · rw [show 3 * (j + 1) = 3 * j + 3 by omega, show 3 + 3 * m = 3 * (m + 1) by omega]
              · rw [ba_app, ba_app, ba_app, HG.out, ← HS.out, thr, drop3]
                simp
              · rw [ByteArray.size_append, ByteArray.size_append, ByteArray.size_append]
                show s.size + (1 + g3.size + 1) ≤ _
                omega
            case measure =>
              simp only [sizeV]
              omega
          | zero =>
            have hlen : 3 * j + 3 ≤ (padZ (Lib.decDigits I)).length := by omega
            have hconv := HR4.out.conv (3 * j) 3 3 hlen
            have hgl : (⟨(((padZ (Lib.decDigits I)).drop (3 * j)).take 3).toArray⟩ : ByteArray).data.toList = (padZ (Lib.decDigits I)).drop (3 * j) := by
              show List.take 3 _ = _
              exact List.take_of_length_le (by rw [List.length_drop]; omega)
            have hgz : (⟨(((padZ (Lib.decDigits I)).drop (3 * j)).take 3).toArray⟩ : ByteArray).size = 3 := by rw [← size_listT, hgl, List.length_drop]; omega
            generalize (⟨(((padZ (Lib.decDigits I)).drop (3 * j)).take 3).toArray⟩ : ByteArray) = g3 at hconv hgl hgz
            have hfull : (s ++ g3).data.toList = [116, 105, 108, 101, 47] ++ (Lib.decDigits L ++ (47 :: threesL (Lib.decDigits I))) := by
              rw [ba_app, hgl, ← HS.out]
              rfl
            have HF := Lib.hid hfull
            clear hgl hfull
            by_cases hk : k < 256
            · have hk' : (k : Int) < 256 := by omega
              have HDW := Lib.hid (decimal_any k (by omega) w4 (tab_below HTAB.out HB4.out))
              have hdl : (⟨(Lib.decDigits k).toArray⟩ : ByteArray).data.toList = Lib.decDigits k := by simp
              have hdz : (⟨(Lib.decDigits k).toArray⟩ : ByteArray).size ≤ 20 := by rw [← size_listT, hdl, Lib.decDigits_length]; exact nDigits_20 k (by omega)
              generalize (⟨(Lib.decDigits k).toArray⟩ : ByteArray) = dk at *
              have HDK := Lib.hid hdl
              clear hdl
              go_wp2_with fail
              refine HDW.out.mono ?_
              rintro e w5 ⟨rfl, b5⟩
              go_wp2_with fail
              go_ret2
              refine ⟨?_, below_trans HB4.out b5⟩
              rw [HV.out]
              refine congrArg (fun x => Ending.returned (Value.tuple #[x, Value.nilIface])) (str_val ?_)
              rw [ba_app (s ++ g3), HF.out, ba_app, HDK.out, nameT, partL, if_pos hk]
              simp
            · have hk' : ¬ (k : Int) < 256 := by omega
              go_wp2_with fail
              go_ret2
              refine ⟨?_, HB4.out⟩
              rw [HV.out]
              refine congrArg (fun x => Ending.returned (Value.tuple #[x, Value.nilIface])) (str_val ?_)
              rw [HF.out, nameT, partL, if_neg hk]
              simp
  · rw [decide_eq_false h] at HM
    have hV : pathV S L I W = .tuple #[.string ⟨#[]⟩, errV S 2] := by unfold pathV; rw [if_neg h]
    generalize pathV S L I W = pv at hV ⊢
    have HV := Lib.hid hV
    have HB := Lib.hid hB
    clear hV hB htab h
    go_enter Tryz.func84, Tryz.ntmps84
    go_wp2_with fail
    refine (HM.out _).mono ?_
    rintro e w1 ⟨rfl, b1⟩
    have hb1 := below_trans (below_one w _) b1
    have g2 := (HB.out.below hb1).var 2 (by omega) (by omega)
    simp only [errG, errV] at g2
    have HB1 := Lib.hid hb1
    clear hb1 b1
    go_wp2_with fail
    go_quiet (fail)
    go_wp2_with fail
    go_ret2
    refine ⟨?_, below_drewN HB1.out _⟩
    rw [HV.out]
    rfl
end Go.Proofs.YtlahdjdbbfjadaaGreatDoor
