/-
  cartularyref02's faults and cartularyref03's FromHex by contracts.
-/
import Derived.Test.YtobnlnkmonaohaaDoorRefH
namespace Go.Proofs.YtobnlnkmonaohaaDoor
open Go.RowKit

theorem faultInfo : (Tryd.prog.info? 27).map (·.size) = some 2 := by kernel_rfl
theorem faultPlain_any (c : Int) (hc : c ≠ 0) (w : World) :
    Calls Tryd.prog 47 #[.int .i64 c] w fun e w' => e = .returned (.agg #[.int .i64 c, .int .i64 (-1)]) ∧ Below w.heap.size w w' := by
  have h1 : (c == 0) = false := by simpa using hc
  clear hc
  go_enter Tryd.func47, Tryd.ntmps47
  go_wp2_with fail
  refine bodyPost_ret (v := .agg #[.int .i64 c, .int .i64 (-1)]) ?_ rfl ⟨rfl, (Below.refl _ _).alloc (Nat.le_refl _) _⟩
  exact results_cell_row rfl _ _ w.heap.size 27 _ (0, 0) _ rfl (heap_alloc_new w _) Tryd.underlying27 rfl faultInfo
theorem faultPlaced_any (c z : Int) (w : World) :
    Calls Tryd.prog 49 #[.int .i64 c, .int .i64 z] w fun e w' => e = .returned (.agg #[.int .i64 c, .int .i64 z]) ∧ Below w.heap.size w w' := by
  go_enter Tryd.func49, Tryd.ntmps49
  go_wp2_with fail
  refine bodyPost_ret (v := .agg #[.int .i64 c, .int .i64 z]) ?_ rfl ⟨rfl, (Below.refl _ _).alloc (Nat.le_refl _) _⟩
  exact results_cell_row rfl _ _ w.heap.size 27 _ (0, 0) _ rfl (heap_alloc_new w _) Tryd.underlying27 rfl faultInfo
/-- A value, and a whole row out of a cell. -/
theorem results_tmp_row {P : Program} {fn : Func} {u p : Tmp} {ty : TypeId} (h : fn.results = #[.tmp u, .cell p ty]) (tmps : Array Value) (w : World) (g : Nat) (t : TypeId) (cs : Array Value) (fr : Nat × Nat) (d : TypeDesc)
    (hp : tmps.getD p undef = .pointer (some ⟨g, 0, none⟩)) (hg : w.heap[g]? = some (.cells cs t fr))
    (hu : P.underlying ty = some d) (hd : (match d with | .struct _ | .array _ _ => true | _ => false) = true) (hi : (P.info? ty).map (·.size) = some cs.size) :
    (results fn tmps).run P w = .ok (.tuple #[tmps.getD u undef, .agg cs]) w := by
  have hp' : tmps[p]?.getD undef = .pointer (some ⟨g, 0, none⟩) := by simpa using hp
  simp [results, h, hp', asAddr, run_loadVar_row w g t ty cs fr d hg hu hd hi, Result.andThen]

/-- The place of a fault as a reference tells it. -/
def fz (c : Nat) (p : Option Int) : Int := if c = 0 then 0 else p.getD (-1)

def faultRow (w : World) (g : Nat) (c z : Int) : Prop := w.heap[g]? = some (.cells #[.int .i64 c, .int .i64 z] 27 (0, 0))
theorem fault_set {w : World} {g : Nat} {a b : Int} (h : faultRow w g a b) (c z : Int) : faultRow ((w.setCell ⟨g, 0, none⟩ (.int .i64 c)).setCell ⟨g, 1, none⟩ (.int .i64 z)) g c z := by
  have h1 := heap_setCell_same w g 0 _ _ (.int .i64 c) h
  exact heap_setCell_same _ g 1 _ _ (.int .i64 z) h1
theorem ret_told {fn : Func} {u p : Tmp} (hf : fn.results = #[.tmp u, .cell p 27]) {Q : Ending → World → Prop} {a : Act} {w : World} (g : Nat) (c z : Int) (v : Value)
    (hg : faultRow w g c z) (hd : a.defers = []) (hp : a.tmps.getD p undef = .pointer (some ⟨g, 0, none⟩)) (hv : a.tmps.getD u undef = v) (hQ : Q (.returned (.tuple #[v, .agg #[.int .i64 c, .int .i64 z]])) w) : bodyPost Tryd.prog fn Q .ret a w := by
  refine bodyPost_ret (v := .tuple #[v, .agg #[.int .i64 c, .int .i64 z]]) ?_ hd hQ
  rw [← hv]
  exact results_tmp_row hf _ _ g 27 _ (0, 0) _ hp hg Tryd.underlying27 rfl faultInfo
def fW (w : World) : World := w.alloc (.cells #[.int .i64 0, .int .i64 0] 27)
theorem fW_row (w : World) : faultRow (fW w) w.heap.size 0 0 := heap_alloc_new w _
theorem fW_size (w : World) : (fW w).heap.size = w.heap.size + 1 := by simp [fW]
theorem fW_below {w w' : World} (h : Below (fW w).heap.size (fW w) w') : Below w.heap.size w w' :=
  below_trans ((Below.refl _ _).alloc (Nat.le_refl _) _) h
theorem faultRow.below {w w' : World} {g : Nat} {a b : Int} (h : faultRow w g a b) (hb : Below w.heap.size w w') : faultRow w' g a b := below_heap hb h
theorem faultRow.cells {w : World} {g : Nat} {a b : Int} (h : faultRow w g a b) : w.cell? ⟨g, 0, none⟩ = some (.int .i64 a) ∧ w.cell? ⟨g, 1, none⟩ = some (.int .i64 b) ∧ w.frozen? ⟨g, 0, none⟩ = false ∧ w.frozen? ⟨g, 1, none⟩ = false :=
  ⟨by rw [cell_of_row _ _ 0 _ _ _ h]; rfl, by rw [cell_of_row _ _ 1 _ _ _ h]; rfl, frozen_row h 0, frozen_row h 1⟩
/-- The end of a call that stores a fault into its result's cell. -/
theorem end_below {w w1 : World} (h : Below w.heap.size w w1) (c z : Int) : Below w.heap.size w ((w1.setCell ⟨w.heap.size, 0, none⟩ (.int .i64 c)).setCell ⟨w.heap.size, 1, none⟩ (.int .i64 z)) :=
  (h.setCell (p := ⟨w.heap.size, 0, none⟩) (Nat.le_refl _) _).setCell (p := ⟨w.heap.size, 1, none⟩) (Nat.le_refl _) _

theorem badH_inv {c : UInt8} {r : List UInt8} (h : badH (c :: r) = -1) : 0 ≤ idx16 c ∧ badH r = -1 := by
  unfold badH at h
  split at h
  · omega
  · split at h
    · rename_i h1 h2; exact ⟨by omega, h2⟩
    · have := badH_ge r; omega
def BadRel (s : ByteArray) (v : Value) : Prop :=
  ∃ k : Nat, k ≤ s.size ∧ v = .int .i64 k ∧ badH s.data.toList = if badH (s.data.toList.drop k) = -1 then -1 else badH (s.data.toList.drop k) + k
def RFHRel (s : ByteArray) (w : World) (vo vi : Value) (wr : World) : Prop :=
  ∃ (k : Nat) (out : List UInt8), k ≤ s.size ∧ k % 2 = 0 ∧ vi = .int .i64 k ∧ out.length ≤ k ∧ wr.ownsRow (fW w).heap.size 5 1 vo out.length (Lib.byteCells out) ∧ Below (fW w).heap.size (fW w) wr ∧
    badH (s.data.toList.drop k) = -1 ∧ out ++ decH (s.data.toList.drop k) = decH s.data.toList

theorem badH_step {c : UInt8} {r : List UInt8} (h : ¬ idx16 c < 0) : badH (c :: r) = if badH r = -1 then -1 else badH r + 1 := by
  show (if idx16 c < 0 then (0 : Int) else if badH r = -1 then -1 else badH r + 1) = _
  rw [if_neg h]
theorem badH_zero {c : UInt8} {r : List UInt8} (h : idx16 c < 0) : badH (c :: r) = 0 := by
  show (if idx16 c < 0 then (0 : Int) else if badH r = -1 then -1 else badH r + 1) = _
  rw [if_pos h]
theorem num_hex (c : UInt8) (N : Nat) (h : idx16 c = N) (W : World) : Calls Tryd.prog 50 #[.string ⟨#[48, 49, 50, 51, 52, 53, 54, 55, 56, 57, 97, 98, 99, 100, 101, 102]⟩, .int .u8 (c.toNat : Int)] W fun e w' => e = .returned (.int .i64 (N : Int)) ∧ W = w' := by
  have := num16_any c W
  rwa [h] at this
theorem num_hexn (c : UInt8) (h : idx16 c < 0) (W : World) : Calls Tryd.prog 50 #[.string ⟨#[48, 49, 50, 51, 52, 53, 54, 55, 56, 57, 97, 98, 99, 100, 101, 102]⟩, .int .u8 (c.toNat : Int)] W fun e w' => e = .returned (.int .i64 (-1)) ∧ W = w' := by
  have := num16_any c W
  rwa [show idx16 c = -1 by have := idx16_bd c; omega] at this
/-- What a reference's reading says. -/
def told2 (x : List UInt8 × Nat × Option Int) : Value := .tuple #[.string ⟨x.1.toArray⟩, .agg #[.int .i64 (x.2.1 : Int), .int .i64 (fz x.2.1 x.2.2)]]

set_option maxHeartbeats 2000000 in
set_option maxRecDepth 100000 in
theorem refFromHex_any (s : ByteArray) (w : World) (hs : s.size ≤ 9223372036854775000) :
    Calls Tryd.prog 30 #[.string s] w fun e w' => e = .returned (told2 (fromHexL s.data.toList)) ∧ Below w.heap.size w w' := by
  have hsz := size_list s
  have hans := fromHex_ref s.data.toList
  rw [hsz] at hans
  generalize fromHexL s.data.toList = ans at *
  have HA := Lib.hid hans
  have HS := Lib.hid hsz
  clear hsz hans
  by_cases hbig : 1048576 < s.size
  · have HP := Lib.hid fun W => faultPlain_any 4 (by decide) W
    go_enter Tryd.func30, Tryd.ntmps30
    go_wp2_with fail
    refine (HP.out _).mono ?_
    rintro e w1 ⟨rfl, b1⟩
    have hh := (fW_row w).below b1
    obtain ⟨c0, c1, f0, f1⟩ := hh.cells
    have HH := Lib.hid hh
    have hb := end_below (fW_below b1) 4 (-1)
    clear hh
    go_wp2_with fail
    refine ret_told rfl w.heap.size 4 (-1) (.string ⟨#[]⟩) (fault_set HH.out _ _) rfl rfl rfl ⟨?_, hb⟩
    have e : ans = ([], 4, none) := by rw [HA.out, if_pos hbig]
    rw [e]; rfl
  · obtain ⟨i0, hi, hz0, hz1, hz2⟩ := info_parts Tryd.infoByte
    go_enter Tryd.func30, Tryd.ntmps30
    go_wp2_with fail
    go_loop [4] (fun i => BadRel s i) (fun i => s.size - (intOf i).toNat)
    case atStart =>
      refine ⟨0, by omega, rfl, ?_⟩
      rw [List.drop_zero]
      by_cases h : badH s.data.toList = -1
      · rw [if_pos h, h]
      · rw [if_neg h]; simp
    case round =>
      obtain ⟨k, hk, rfl, hrun⟩ := hrel
      have HR := Lib.hid hrun
      clear hrun
      by_cases hlt : k < s.size
      · obtain ⟨c, hc, hd⟩ := drop_at hlt
        have xk := fun w => run_idx (P := Tryd.prog) Tryd.underlying9 s k c hc (k : Int) rfl .i64 w
        have hc256 := UInt8.toNat_lt c
        have hib := idx16_bd c
        have hrun2 := HR.out
        rw [hd] at hrun2
        have hge := badH_ge (s.data.toList.drop (k + 1))
        clear hd hc
        by_cases hn : idx16 c < 0
        · have HI := Lib.hid (num_hexn c hn)
          have hf : ans = ([], 3, some (k : Int)) := by
            have e : badH s.data.toList = (k : Int) := by rw [hrun2, badH_zero hn]; simp
            rw [HA.out, if_neg hbig, e, if_pos (by omega)]
          have HF := Lib.hid hf
          have HP := Lib.hid fun W => faultPlaced_any 3 (k : Int) W
          clear hf hrun2 hge hn hib
          go_wp2_with fail
          refine (HI.out _).mono ?_
          rintro e w0 ⟨rfl, rfl⟩
          go_wp2_with fail
          refine (HP.out _).mono ?_
          rintro e w1 ⟨rfl, b1⟩
          have hh := (fW_row w).below b1
          obtain ⟨c0, c1, f0, f1⟩ := hh.cells
          have HH := Lib.hid hh
          have hb := end_below (fW_below b1) 3 (k : Int)
          clear hh
          go_wp2_with fail
          refine ret_told rfl w.heap.size 3 (k : Int) (.string ⟨#[]⟩) (fault_set HH.out _ _) rfl rfl rfl ⟨?_, hb⟩
          rw [HF.out]; rfl
        · obtain ⟨N, hN⟩ : ∃ N : Nat, idx16 c = N := ⟨(idx16 c).toNat, by omega⟩
          have HI := Lib.hid (num_hex c N hN)
          have hf : badH s.data.toList = if badH (s.data.toList.drop (k + 1)) = -1 then -1 else badH (s.data.toList.drop (k + 1)) + ((k + 1 : Nat) : Int) := by
            rw [hrun2, badH_step hn]
            by_cases h2 : badH (s.data.toList.drop (k + 1)) = -1
            · rw [if_pos h2, if_pos h2]; rfl
            · rw [if_neg h2, if_neg h2, if_neg (by omega)]; omega
          have HF := Lib.hid hf
          clear hf hrun2 hge hn hib hN
          go_wp2_with fail
          refine (HI.out _).mono ?_
          rintro e w0 ⟨rfl, rfl⟩
          go_wp2_with fail
          go_round
          case rel => exact ⟨k + 1, by omega, by go_num, HF.out⟩
          case measure => simp [intOf]; omega
      · have hf : badH s.data.toList = -1 := by
          rw [HR.out, List.drop_eq_nil_of_le (by rw [HS.out]; omega)]; rfl
        have HF := Lib.hid hf
        clear hf
        by_cases h2 : s.size % 2 = 0
        · have emod : (s.size : Int).tmod 2 = 0 := by rw [Int.tmod_eq_emod_of_nonneg (by omega)]; omega
          have HE := Lib.hid h2
          go_wp2_with fail
          go_loopw [5, 6] (fun vo vi wr => RFHRel s w vo vi wr) (fun _ vi _ => s.size - (intOf vi).toNat)
          case atStart => exact ⟨0, [], by omega, by omega, rfl, by simp, World.ownsRow_nil _ _ _ _, Below.refl _ _, HF.out, rfl⟩
          case round =>
            obtain ⟨k, out, hk, hke, rfl, hol, hown, hbel, hbad, hacc⟩ := hrel
            have HACC := Lib.hid hacc
            have HBAD := Lib.hid hbad
            clear hacc hbad
            have hwsz := hbel.size
            rw [fW_size] at hwsz
            by_cases hlt : k < s.size
            · have hlt1 : k + 1 < s.size := by omega
              obtain ⟨a, ha, hda⟩ := drop_at hlt
              obtain ⟨b, hb, hdb⟩ := drop_at hlt1
              have xa := fun w => run_idx (P := Tryd.prog) Tryd.underlying9 s k a ha (k : Int) rfl .i64 w
              have xb := fun w => run_idx (P := Tryd.prog) Tryd.underlying9 s (k + 1) b hb ((k : Int) + 1) (by omega) .i64 w
              have ha256 := UInt8.toNat_lt a
              have hb256 := UInt8.toNat_lt b
              have hbad := HBAD.out
              rw [hda, hdb] at hbad
              obtain ⟨pa, hbad⟩ := badH_inv hbad
              obtain ⟨pb, hbad⟩ := badH_inv hbad
              have hba := idx16_bd a
              have hbb := idx16_bd b
              have hacc := HACC.out
              rw [hda, hdb] at hacc
              obtain ⟨A, hA⟩ : ∃ A : Nat, idx16 a = A := ⟨(idx16 a).toNat, by omega⟩
              obtain ⟨B, hB⟩ : ∃ B : Nat, idx16 b = B := ⟨(idx16 b).toNat, by omega⟩
              have hA16 : A < 16 := by omega
              have hB16 : B < 16 := by omega
              have hfin : out ++ [byteN (A * 16 + B)] ++ decH (s.data.toList.drop (k + 1 + 1)) = decH s.data.toList := by
                rw [← hacc, decH, hA, hB]; simp
              have HFIN := Lib.hid hfin
              have HB2 := Lib.hid hbad
              have h1 : IntKind.u8.wrap (16 * (A : Int) + (B : Int)) = ((byteN (A * 16 + B)).toNat : Int) := by rw [byteN_val, IntKind.wrap_u8]; omega
              clear ha hda hb hdb hbad pa pb hba hbb hacc hfin
              have hnw : ∀ (W : World), W.heap = wr.heap → ∀ j u, (Lib.byteCells [byteN (A * 16 + B)])[j]? = some u → (W.alloc (.cells #[.int .u8 ((byteN (A * 16 + B)).toNat : Int)] 5)).cell? ((⟨wr.heap.size, 0, none⟩ : Addr).add j) = some u := fun W hW j u hj => by
                rw [← hW]
                exact (heap_news W _ [byteN (A * 16 + B)] j).trans hj
              have hone := byteCells_one [byteN (A * 16 + B)]
              have ek1 : IntKind.i64.wrap ((k : Int) + 1) = (k : Int) + 1 := by rw [IntKind.wrap_i64]; omega
              have eA : IntKind.i64.wrap (16 * (A : Int)) = 16 * (A : Int) := by rw [IntKind.wrap_i64]; omega
              have eAB : IntKind.i64.wrap (16 * (A : Int) + (B : Int)) = 16 * (A : Int) + (B : Int) := by rw [IntKind.wrap_i64]; omega
              go_wp2_with fail
              go_region_law (first | (refine step_append_lies _ (by rfl) (.tmp 37) (.tmp 50) 66 (by rfl) (fW w).heap.size 5 i0 (.int .u8 0) 1 1 Tryd.underlying66 hi hz0 hz1 hz2 rfl (by decide) _ _ _ (by rfl) (by exact hown.alloc _) ⟨wr.heap.size, 0, none⟩ 1 1 (Lib.byteCells [byteN (A * 16 + B)]) (by rfl) (by rfl) (by exact hnw _ rfl) hone (by omega) (by unfold maxLen; omega) (by omega) (by simp [fW_size]; omega) _ rfl ?_; intro g cap w' hown' hgrow _ _) | (go_simp; go_at_call 50; refine (num16_any _ _).mono ?_; rintro e w' ⟨rfl, rfl⟩))
              all_goals
                have hbel1 : Below (fW w).heap.size (fW w) w' := ((below_drewN hbel 1).alloc hbel.size _).grown hgrow (by have := hbel.size; simp; omega) (fun j hj => (hown.lt j hj).1)
                rw [cells_app] at hown'
                have hown1 : w'.ownsRow (fW w).heap.size 5 1 (.slice (some ⟨g, 0, none⟩) (out.length + 1) cap) (out ++ [byteN (A * 16 + B)]).length (Lib.byteCells (out ++ [byteN (A * 16 + B)])) := by rw [List.length_append]; exact hown'
                clear hown hgrow hbel hown' hnw hone
                go_wp2_with fail
                go_roundw
                case rel => exact ⟨k + 1 + 1, _, by omega, by omega, by go_num, by simp; omega, hown1, hbel1, HB2.out, HFIN.out⟩
                case measure => simp [intOf]; omega
            · have hf : ans = (out, 0, none) := by
                have e : out = decH s.data.toList := by rw [← HACC.out, List.drop_eq_nil_of_le (by rw [HS.out]; omega)]; simp [decH]
                rw [HA.out, if_neg hbig, HF.out, if_neg (by simp), if_neg (by have := HE.out; omega), e]
              have HF2 := Lib.hid hf
              have hconv := conv_own hown
              have hh := (fW_row w).below hbel
              obtain ⟨c0, c1, f0, f1⟩ := hh.cells
              have HH := Lib.hid hh
              have hb := end_below (fW_below hbel) 0 0
              clear hf hh
              go_wp2_with fail
              refine ret_told rfl w.heap.size 0 0 (.string ⟨out.toArray⟩) (fault_set HH.out _ _) rfl rfl rfl ⟨?_, hb⟩
              rw [HF2.out]; rfl
        · have emod : (s.size : Int).tmod 2 = 1 := by rw [Int.tmod_eq_emod_of_nonneg (by omega)]; omega
          have HP := Lib.hid fun W => faultPlaced_any 3 (s.size : Int) W
          have hf : ans = ([], 3, some (s.size : Int)) := by
            rw [HA.out, if_neg hbig, HF.out, if_neg (by simp), if_pos (by omega)]
          have HF2 := Lib.hid hf
          clear hf
          go_wp2_with fail
          refine (HP.out _).mono ?_
          rintro e w1 ⟨rfl, b1⟩
          have hh := (fW_row w).below b1
          obtain ⟨c0, c1, f0, f1⟩ := hh.cells
          have HH := Lib.hid hh
          have hb := end_below (fW_below b1) 3 (s.size : Int)
          clear hh
          go_wp2_with fail
          refine ret_told rfl w.heap.size 3 (s.size : Int) (.string ⟨#[]⟩) (fault_set HH.out _ _) rfl rfl rfl ⟨?_, hb⟩
          rw [HF2.out]; rfl
end Go.Proofs.YtobnlnkmonaohaaDoor
