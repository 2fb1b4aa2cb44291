/-
  tile.Parse by its contract: the tile of a name, or ErrInput.
-/
import Derived.Test.YtlahdjdbbfjadaaGreatDoorRepD
import Derived.Test.YtlahdjdbbfjadaaGreatDoorTilePath
import Derived.Test.YtlahdjdbbfjadaaGreatDoorTileP2
import Derived.Test.YtlahdjdbbfjadaaGreatDoorShelf
import Derived.RegionTactic
import Derived.ChangeAlike
import Derived.BigRegion
namespace Go.Proofs.YtlahdjdbbfjadaaGreatDoor
open Go.RowKit

theorem cutPrefixL_any (s : ByteArray) (w : World) :
    Calls Tryz.prog 145 #[.string s, .string ⟨#[116, 105, 108, 101, 47]⟩] w fun e w' => e = .returned (.tuple #[.string ⟨(pRest s.data.toList).toArray⟩, .bool (tileS.isPrefixOf s.data.toList)]) ∧ w = w' := by
  have hp := Tryz.stringslite_HasPrefix s ⟨#[116, 105, 108, 101, 47]⟩ w
  have hpe : Lib.hasPrefix s.data.toList (⟨#[116, 105, 108, 101, 47]⟩ : ByteArray).data.toList = tileS.isPrefixOf s.data.toList := rfl
  rw [hpe] at hp
  have HP := Lib.hid hp
  clear hp hpe
  by_cases h : tileS.isPrefixOf s.data.toList = true
  · have hr : pRest s.data.toList = s.data.toList.drop 5 := by unfold pRest; rw [if_pos h]
    have hl : 5 ≤ s.size := by
      have := (List.isPrefixOf_iff_prefix.1 h).length_le
      rw [size_listT] at this
      exact this
    rw [hr]
    rw [h] at HP ⊢
    have hl' : (5 : Int) ≤ s.size := by omega
    have hex : s.extract 5 s.size = ⟨(s.data.toList.drop 5).toArray⟩ := by
      apply ByteArray.ext
      apply Array.toList_inj.1
      simp only [ByteArray.data_extract, Array.toList_extract, List.extract_eq_take_drop]
      exact List.take_of_length_le (by rw [List.length_drop, size_listT]; exact Nat.le_refl _)
    go_enter Tryz.func145, Tryz.ntmps145
    go_wp2_with fail
    refine HP.out.mono ?_
    rintro e w' ⟨rfl, rfl⟩
    go_wp2_with fail
    go_ret2
    refine ⟨?_, rfl⟩
    rw [← hex]
    rfl
  · have h : tileS.isPrefixOf s.data.toList = false := Bool.eq_false_iff.2 h
    have hr : pRest s.data.toList = s.data.toList := by unfold pRest; rw [if_neg (by rw [h]; decide)]
    rw [hr]
    rw [h] at HP ⊢
    go_enter Tryz.func145, Tryz.ntmps145
    go_wp2_with fail
    refine HP.out.mono ?_
    rintro e w' ⟨rfl, rfl⟩
    go_wp2_with fail
    go_ret2
    refine ⟨?_, rfl⟩
    exact congrArg (fun x => Ending.returned (Value.tuple #[x, Value.bool false])) (str_valT s)
theorem cutPrefix_any (s : ByteArray) (w : World) :
    Calls Tryz.prog 129 #[.string s, .string ⟨#[116, 105, 108, 101, 47]⟩] w fun e w' => e = .returned (.tuple #[.string ⟨(pRest s.data.toList).toArray⟩, .bool (tileS.isPrefixOf s.data.toList)]) ∧ w = w' := by
  have HC := Lib.hid (cutPrefixL_any s w)
  go_enter Tryz.func129, Tryz.ntmps129
  go_wp2_with fail
  refine HC.out.mono ?_
  rintro e w' ⟨rfl, rfl⟩
  go_wp2_with fail
  go_ret2
  exact ⟨rfl, rfl⟩

/-- What Parse answers. -/
def parseV (S : Nat → Addr) (l : List UInt8) : Value := match parseT l with
  | some (L, I, W) => .tuple #[.agg (tileV L I W), .nilIface]
  | none => .tuple #[.agg (tileV 0 0 0), errV S 3]
theorem cut_len (l sep : List UInt8) : (Lib.cut l sep).1.length ≤ l.length ∧ (Lib.cut l sep).2.1.length ≤ l.length := by
  unfold Lib.cut
  split
  · exact ⟨by rw [List.length_take]; omega, by rw [List.length_drop]; omega⟩
  · exact ⟨Nat.le_refl _, Nat.zero_le _⟩
theorem pRest_len (l : List UInt8) : (pRest l).length ≤ l.length := by
  unfold pRest
  split <;> simp
theorem parse_no (S : Nat → Addr) (l : List UInt8) (h : ¬ (tileS.isPrefixOf l = true ∧ (pCut1 l).2.2 = true ∧ (fromDec (pCut1 l).1).2.1 = 0 ∧ (fromDec (pIdx (pCut2 l).1)).2.1 = 0 ∧ ((pCut2 l).2.2 = true → (fromDec (pCut2 l).2.1).2.1 = 0) ∧ (fromDec (pCut1 l).1).1 ≤ 7 ∧ (if (pCut2 l).2.2 = true then (fromDec (pCut2 l).2.1).1 else 256) ≤ 256)) :
    parseV S l = .tuple #[.agg (tileV 0 0 0), errV S 3] := by
  have : parseT l = none := by
    unfold parseT
    rw [if_neg]
    rintro ⟨hk, _⟩
    exact h hk
  unfold parseV
  rw [this]
theorem parse_yes (S : Nat → Addr) (l : List UInt8) (h : (tileS.isPrefixOf l = true ∧ (pCut1 l).2.2 = true ∧ (fromDec (pCut1 l).1).2.1 = 0 ∧ (fromDec (pIdx (pCut2 l).1)).2.1 = 0 ∧ ((pCut2 l).2.2 = true → (fromDec (pCut2 l).2.1).2.1 = 0) ∧ (fromDec (pCut1 l).1).1 ≤ 7 ∧ (if (pCut2 l).2.2 = true then (fromDec (pCut2 l).2.1).1 else 256) ≤ 256)) :
    parseV S l = if MayT (fromDec (pCut1 l).1).1 (fromDec (pIdx (pCut2 l).1)).1 ((if (pCut2 l).2.2 = true then (fromDec (pCut2 l).2.1).1 else 256 : Nat) : Int) ∧ nameT (fromDec (pCut1 l).1).1 (fromDec (pIdx (pCut2 l).1)).1 (if (pCut2 l).2.2 = true then (fromDec (pCut2 l).2.1).1 else 256) = l
      then .tuple #[.agg (tileV (fromDec (pCut1 l).1).1 (fromDec (pIdx (pCut2 l).1)).1 ((if (pCut2 l).2.2 = true then (fromDec (pCut2 l).2.1).1 else 256 : Nat) : Int)), .nilIface] else .tuple #[.agg (tileV 0 0 0), errV S 3] := by
  have hk : pOk l := h
  unfold parseV parseT
  by_cases hm : MayT (fromDec (pCut1 l).1).1 (fromDec (pIdx (pCut2 l).1)).1 ((if (pCut2 l).2.2 = true then (fromDec (pCut2 l).2.1).1 else 256 : Nat) : Int) ∧ nameT (fromDec (pCut1 l).1).1 (fromDec (pIdx (pCut2 l).1)).1 (if (pCut2 l).2.2 = true then (fromDec (pCut2 l).2.1).1 else 256) = l
  · rw [if_pos hm, if_pos (show pOk l ∧ MayT (pL l) (pI l) (pW l) ∧ nameT (pL l) (pI l) (pW l) = l from ⟨hk, hm⟩)]
    rfl
  · rw [if_neg hm, if_neg (show ¬ (pOk l ∧ MayT (pL l) (pI l) (pW l) ∧ nameT (pL l) (pI l) (pW l) = l) from fun e => hm e.2)]
theorem as_bytes (l : List UInt8) : ∃ r : ByteArray, (⟨l.toArray⟩ : ByteArray) = r ∧ r.data.toList = l := ⟨_, rfl, by simp⟩
/-- The road to Parse's name: what is read out of the text. -/
structure PRoad (l : List UInt8) (r0 r1 r2 r3 r4 r5 r6 r7 : ByteArray) (b0 b1 b2 : Bool) : Prop where
  e0 : r0.data.toList = pRest l
  e1 : r1.data.toList = (pCut1 l).1
  e2 : r2.data.toList = (pCut1 l).2.1
  e3 : r3.data.toList = (pCut2 l).1
  e4 : r4.data.toList = (pCut2 l).2.1
  e5 : r5.data.toList = (pCut2 l).1.filter keepX
  e6 : r6.data.toList = Lib.trimLeftB ((pCut2 l).1.filter keepX) 48
  e7 : r7.data.toList = pIdx (pCut2 l).1
  f0 : b0 = tileS.isPrefixOf l
  f1 : b1 = (pCut1 l).2.2
  f2 : b2 = (pCut2 l).2.2
  z : r0.size ≤ l.length ∧ r1.size ≤ l.length ∧ r2.size ≤ l.length ∧ r3.size ≤ l.length ∧ r4.size ≤ l.length ∧ r5.size ≤ l.length ∧ r6.size ≤ l.length

theorem road (l : List UInt8) : ∃ r0 r1 r2 r3 r4 r5 r6 r7 b0 b1 b2, PRoad l r0 r1 r2 r3 r4 r5 r6 r7 b0 b1 b2 := by
  obtain ⟨r0, _, h0⟩ := as_bytes (pRest l)
  obtain ⟨r1, _, h1⟩ := as_bytes (pCut1 l).1
  obtain ⟨r2, _, h2⟩ := as_bytes (pCut1 l).2.1
  obtain ⟨r3, _, h3⟩ := as_bytes (pCut2 l).1
  obtain ⟨r4, _, h4⟩ := as_bytes (pCut2 l).2.1
  obtain ⟨r5, _, h5⟩ := as_bytes ((pCut2 l).1.filter keepX)
  obtain ⟨r6, _, h6⟩ := as_bytes (Lib.trimLeftB ((pCut2 l).1.filter keepX) 48)
  obtain ⟨r7, _, h7⟩ := as_bytes (pIdx (pCut2 l).1)
  have k0 := pRest_len l
  have k1 := cut_len (pRest l) [47]
  have k2 := cut_len (pCut1 l).2.1 [46, 112, 47]
  have k3 := List.length_filter_le keepX (pCut2 l).1
  have k4 := (List.dropWhile_sublist (· == 48) (l := (pCut2 l).1.filter keepX)).length_le
  refine ⟨r0, r1, r2, r3, r4, r5, r6, r7, _, _, _, h0, h1, h2, h3, h4, h5, h6, h7, rfl, rfl, rfl, ?_⟩
  simp only [← size_listT, h0, h1, h2, h3, h4, h5, h6]
  unfold pCut1 pCut2 Lib.trimLeftB at *
  unfold pCut1 at *
  omega
/-- The result's cell is as it was laid. -/
def PW (w wi : World) : Prop := wi.heap[w.heap.size]? = some (.cells (tileV 0 0 0) 93 (0, 0)) ∧ Below w.heap.size w wi
theorem PW.next {w wi wj : World} (h : PW w wi) (hb : Below wi.heap.size wi wj) : PW w wj := ⟨below_heap hb h.1, below_trans h.2 hb⟩
theorem PW.cells {w wi : World} (h : PW w wi) : (wi.cell? ⟨w.heap.size, 0, none⟩ = some (.int .u8 0) ∧ wi.cell? ⟨w.heap.size, 1, none⟩ = some (.int .u64 0) ∧ wi.cell? ⟨w.heap.size, 2, none⟩ = some (.int .i64 0)) ∧ (∀ j, wi.frozen? ⟨w.heap.size, j, none⟩ = false) := ⟨cells3 h.1, frozen_row h.1⟩
/-- What '!= nil' says of an error. -/
def Ne (ev : Value) (bb : Bool) : Prop := (∀ (n : Tmp) (W : World), (eqGuard BinOp.neq 26 (.tmp n) (.const .nilIface) ev .nilIface).run Tryz.prog W = .ok () W) ∧ ∀ W : World, (binOp BinOp.neq 26 ev .nilIface).run Tryz.prog W = .ok (.bool bb) W
theorem ne_nil : Ne .nilIface false := ⟨fun _ _ => by kernel_rfl, fun _ => by kernel_rfl⟩
theorem ne_err (a : Option Addr) : Ne (.iface 371 (.pointer a)) true := ⟨fun _ _ => by kernel_rfl, fun _ => by kernel_rfl⟩
theorem ne_fault (a : Option Addr) : Ne (.iface 217 (.pointer a)) true := ⟨fun _ _ => by kernel_rfl, fun _ => by kernel_rfl⟩
/-- A number read, or not. -/
def Read (W : World) (n c : Nat) (e : Ending) (w' : World) : Prop := ∃ ev bb, e = .returned (.tuple #[.int .u64 (n : Int), ev]) ∧ Ne ev bb ∧ ((c = 0 ∧ bb = false) ∨ (c ≠ 0 ∧ bb = true)) ∧ Below W.heap.size W w'
theorem read_any (S : Nat → Addr) (r : ByteArray) (W : World) (hs : r.size ≤ 4294967000) (hB : Base S W) : Calls Tryz.prog 131 #[.string r] W fun e w' => Read W (fromDec r.data.toList).1 (fromDec r.data.toList).2.1 e w' := by
  refine (fromDecimal_any S r W (by omega) hB).mono ?_
  rintro e w' ⟨ev, rfl, he, hb⟩
  rcases he with ⟨rfl, h2, _⟩ | ⟨h1, _, rfl, _⟩ | ⟨h1, _, b, z, rfl, _⟩
  · exact ⟨_, _, rfl, ne_nil, .inl ⟨h2, rfl⟩, hb⟩
  · exact ⟨_, _, rfl, ne_err _, .inr ⟨by omega, rfl⟩, hb⟩
  · exact ⟨_, _, rfl, ne_fault _, .inr ⟨by omega, rfl⟩, hb⟩
theorem drew_below (W : World) (n : Nat) : Below W.heap.size W (W.drewN n) := below_drewN (Below.refl _ _) n
theorem back_bytes {r : ByteArray} {l : List UInt8} (h : r.data.toList = l) : (⟨l.toArray⟩ : ByteArray) = r := by subst h; cases r; simp

set_option maxHeartbeats 4000000 in
set_option maxRecDepth 100000 in
theorem parse_any (S : Nat → Addr) (s : ByteArray) (w : World) (hs : s.size ≤ 4294967000) (hB : Base S w) (htab : Tab w) :
    Calls Tryz.prog 85 #[.string s] w fun e w' => e = .returned (parseV S s.data.toList) ∧ Below w.heap.size w w' := by
  obtain ⟨r0, r1, r2, r3, r4, r5, r6, r7, b0, b1, b2, R⟩ := road s.data.toList
  obtain ⟨e0, e1, e2, e3, e4, e5, e6, e7, f0, f1, f2, z0, z1, z2, z3, z4, z5, z6⟩ := R
  rw [size_listT] at z0 z1 z2 z3 z4 z5 z6
  have HC0 : ∀ W, Calls Tryz.prog 129 #[.string s, .string ⟨#[116, 105, 108, 101, 47]⟩] W fun e w' => e = .returned (.tuple #[.string r0, .bool b0]) ∧ Below W.heap.size W w' := fun W => (cutPrefix_any s W).mono fun e w' h => ⟨by rw [h.1, back_bytes e0, f0], by rw [← h.2]; exact Below.refl _ _⟩
  have HC1 : ∀ W, Base S W → Calls Tryz.prog 130 #[.string r0, .string ⟨#[47]⟩] W fun e w' => e = .returned (.tuple #[.string r1, .string r2, .bool b1]) ∧ Below W.heap.size W w' := fun W hB => by
    obtain ⟨m, hm⟩ := hB.mx
    refine (Tryz.strings_Cut r0 ⟨#[47]⟩ m W (by omega) hm).mono ?_
    rintro e w' ⟨he, n, rfl⟩
    refine ⟨?_, drew_below W n⟩
    have hc : Lib.cut r0.data.toList (⟨#[47]⟩ : ByteArray).data.toList = pCut1 s.data.toList := by rw [e0]; rfl
    rw [he, hc, back_bytes e1, back_bytes e2, f1]
  have HC2 : ∀ W, Base S W → Calls Tryz.prog 130 #[.string r2, .string ⟨#[46, 112, 47]⟩] W fun e w' => e = .returned (.tuple #[.string r3, .string r4, .bool b2]) ∧ Below W.heap.size W w' := fun W hB => by
    obtain ⟨m, hm⟩ := hB.mx
    refine (Tryz.strings_Cut r2 ⟨#[46, 112, 47]⟩ m W (by omega) hm).mono ?_
    rintro e w' ⟨he, n, rfl⟩
    refine ⟨?_, drew_below W n⟩
    have hc : Lib.cut r2.data.toList (⟨#[46, 112, 47]⟩ : ByteArray).data.toList = pCut2 s.data.toList := by rw [e2]; rfl
    rw [he, hc, back_bytes e3, back_bytes e4, f2]
  have hno := parse_no S s.data.toList
  have hyes := parse_yes S s.data.toList
  have hb0 : tileS.isPrefixOf s.data.toList = b0 := f0.symm
  have hb1 : (pCut1 s.data.toList).2.2 = b1 := f1.symm
  have hb2 : (pCut2 s.data.toList).2.2 = b2 := f2.symm
  have hi7 : (r6.toList.isEmpty = true ∧ r7 = ⟨#[48]⟩) ∨ (r6.toList.isEmpty = false ∧ r7 = r6) := by
    by_cases h : Lib.trimLeftB ((pCut2 s.data.toList).1.filter keepX) 48 = []
    · refine .inl ⟨by rw [Lib.toList_data, e6, h]; rfl, ?_⟩
      have : r7.data.toList = [48] := by rw [e7]; unfold pIdx; rw [if_pos h]
      rw [← back_bytes this]
    · refine .inr ⟨by rw [Lib.toList_data, e6]; simpa using h, ?_⟩
      have : r7.data.toList = r6.data.toList := by rw [e7, e6]; unfold pIdx; rw [if_neg h]
      rw [← back_bytes this, back_bytes rfl]
  rw [← e1, ← e4, ← e7, hb0, hb1, hb2] at hno hyes
  have HF1 := fun W hB => read_any S r1 W (by omega) hB
  have HF4 := fun W hB => read_any S r4 W (by omega) hB
  have z7 : r7.size ≤ 4294967000 := by
    rcases hi7 with ⟨_, h⟩ | ⟨_, h⟩
    · rw [h]; decide
    · rw [h]; omega
  have HF7 := fun W hB => read_any S r7 W z7 hB
  have hn1 := fromDec_le r1.data.toList
  have hn4 := fromDec_le r4.data.toList
  have hn7 := fromDec_le r7.data.toList
  generalize (fromDec r1.data.toList).1 = n1 at *
  generalize (fromDec r1.data.toList).2.1 = c1 at *
  generalize (fromDec r4.data.toList).1 = n4 at *
  generalize (fromDec r4.data.toList).2.1 = c4 at *
  generalize (fromDec r7.data.toList).1 = n7 at *
  generalize (fromDec r7.data.toList).2.1 = c7 at *
  have HF1 := Lib.hid HF1
  have HF4 := Lib.hid HF4
  have HF7 := Lib.hid HF7
  have HNO := Lib.hid hno
  have HYES := Lib.hid hyes
  clear hno hyes
  have HTR : ∀ W, Calls Tryz.prog 134 #[.string r5, .string ⟨#[48]⟩] W fun e w' => e = .returned (.string r6) ∧ W = w' := fun W => (Tryz.strings_TrimLeft_one r5 48 (by decide) W).mono fun e w' h => ⟨by rw [h.1, e5, back_bytes e6], h.2.symm⟩
  have HRP : ∀ (W : World) (rb B : Nat) x3 x4, B ≤ rb → B ≤ W.heap.size → RepRow W rb 0 0 x3 x4 → OldNew W x4 → Calls Tryz.prog 133 #[.pointer (some ⟨rb, 0, none⟩), .string r3] W fun e w' => e = .returned (.string r5) ∧ Below B W w' := fun W rb B x3 x4 h1 h2 h3 h4 => (replace_any rb r3 x3 x4 W B h1 h2 (by omega) h3 h4).mono fun e w' h => ⟨by rw [h.1, e3, back_bytes e5], h.2⟩
  have HC0 := Lib.hid HC0
  have HC1 := Lib.hid HC1
  have HC2 := Lib.hid HC2
  have HTR := Lib.hid HTR
  have HRP := Lib.hid HRP
  have HBS := Lib.hid hB
  have HTAB := Lib.hid htab
  generalize parseV S s.data.toList = pv at *
  clear hB htab e0 e1 e2 e3 e4 e5 e6 e7 f0 f1 f2 hb0 hb1 hb2
  go_enter Tryz.func85, Tryz.ntmps85
  go_wp2_with fail
  have p1 : PW w (w.alloc (.cells (tileV 0 0 0) 93)) := ⟨heap_one w _, below_one w _⟩
  refine (HC0.out _).mono ?_
  rintro e w2 ⟨rfl, b2⟩
  have P2 := Lib.hid (p1.next b2)
  clear p1 b2
  go_wp2_with fail
  refine (HC1.out _ (HBS.out.below P2.out.2)).mono ?_
  rintro e w3 ⟨rfl, b3⟩
  have P3 := Lib.hid (P2.out.next b3)
  clear b3
  go_wp2_with fail
  refine (HC2.out _ (HBS.out.below P3.out.2)).mono ?_
  rintro e w4 ⟨rfl, b4⟩
  have P4 := Lib.hid (P3.out.next b4)
  clear b4
  go_wp2_with fail
  refine (HF1.out _ (HBS.out.below P4.out.2)).mono ?_
  rintro e w5 ⟨v1, bb1, rfl, ⟨ng1, ne1⟩, hv1, b5⟩
  have P5 := Lib.hid (P4.out.next b5)
  have HV1 := Lib.hid hv1
  clear b5 hv1
  go_wp2_with fail
  have q0 := heap_one w5 (.cells #[.string ⟨#[120]⟩, .string ⟨#[]⟩, .string ⟨#[47]⟩, .string ⟨#[]⟩] 9)
  refine (newRep_any w5.heap.size _ (cell_of q0 0 rfl) (cell_of q0 1 rfl) (cell_of q0 2 rfl) (cell_of q0 3 rfl)).mono ?_
  rintro e w6 ⟨rb, x4, rfl, hle, hrr, hon, b6⟩
  have b6' := below_trans (below_one w5 _) b6
  have hle' : w5.heap.size ≤ rb := by simp at hle; omega
  have HRR := Lib.hid hrr
  have HON := Lib.hid hon
  have B6 := Lib.hid b6'
  clear q0 hrr hon b6 b6' hle
  go_wp2_with fail
  refine (HRP.out w6 rb w5.heap.size _ _ hle' B6.out.size HRR.out HON.out).mono ?_
  rintro e w7 ⟨rfl, b7⟩
  have P7 := Lib.hid (P5.out.next (B6.out.trans b7))
  clear b7
  go_wp2_with fail
  refine (HTR.out _).mono ?_
  rintro e w7' ⟨rfl, rfl⟩
  rcases hi7 with ⟨hemp, h7⟩ | ⟨hemp, h7⟩
  · subst h7
    rcases (Bool.eq_false_or_eq_true b2).symm with rfl | rfl
    · have ngn := ne_nil.1
      have nen := ne_nil.2
      go_wp2_with fail
      refine (HF7.out _ (HBS.out.below P7.out.2)).mono ?_
      rintro e w8 ⟨v7, bb7, rfl, ⟨ng7, ne7⟩, hv7, b8⟩
      have P8 := Lib.hid (P7.out.next b8)
      have HV7 := Lib.hid hv7
      clear b8 hv7
      have hB9 := HBS.out.below P8.out.2
      have g3 := hB9.var 3 (by omega) (by omega)
      simp only [errG, errV] at g3
      have gl := lt_of_cell (HBS.out.var 3 (by omega) (by omega))
      simp only [errG] at gl
      have gn1 : ¬ w.heap.size = 1 := by omega
      have gn2 : ¬ 1 = w.heap.size := by omega
      obtain ⟨⟨d0, d1, d2⟩, f0⟩ := P8.out.cells
      have f00 := f0 0
      have f01 := f0 1
      have f02 := f0 2
      have lz := lt_of_heap P8.out.1
      have HB9 := Lib.hid hB9
      clear gl hB9
      go_wp2_with fail
      all_goals first
        | (go_region
           all_goals
             go_wp2_with fail
             refine ret_tile rfl w.heap.size 0 0 0 _ (set3_heap P8.out.1) rfl rfl rfl ⟨?_, below_drewN (((P8.out.2.setCell (p := ⟨w.heap.size, 0, none⟩) (Nat.le_refl _) _).setCell (p := ⟨w.heap.size, 1, none⟩) (Nat.le_refl _) _).setCell (p := ⟨w.heap.size, 2, none⟩) (Nat.le_refl _) _) 1⟩
             rw [HNO.out (by
               rintro ⟨q0, q1, q2, q3, q4, q5, q6⟩
               rcases HV1.out with ⟨_, k1⟩ | ⟨k1, _⟩
               · rcases HV7.out with ⟨_, k7⟩ | ⟨k7, _⟩
                 · first
                     | exact absurd q0 (by assumption)
                     | exact absurd q1 (by assumption)
                     | exact absurd (show bb1 = true by assumption) (by rw [k1]; decide)
                     | exact absurd (show bb7 = true by assumption) (by rw [k7]; decide)
                     | omega
                 · exact absurd q3 k7
               · exact absurd q2 k1)]
             rfl)
        | (refine (path_any S n1 n7 256 (by omega) hn7 _ (HB9.out.below (below_one _ _)) (tab_below (tab_below HTAB.out P8.out.2) (below_one _ _))).mono ?_
           rintro e w10 ⟨rfl, b10⟩
           have hk : pv = if MayT n1 n7 256 ∧ nameT n1 n7 256 = s.data.toList then .tuple #[.agg (tileV n1 n7 256), .nilIface] else .tuple #[.agg (tileV 0 0 0), errV S 3] := HYES.out ⟨by assumption, by assumption, by
               rcases HV1.out with ⟨k, _⟩ | ⟨_, k⟩
               · exact k
               · exact absurd k (by assumption), by
               rcases HV7.out with ⟨k, _⟩ | ⟨_, k⟩
               · exact k
               · exact absurd k (by assumption), (fun h => by cases h), by omega, by show (256 : Nat) ≤ 256; exact Nat.le_refl _⟩
           have HK := Lib.hid hk
           have hrow := below_heap b10 (heap_one w8 _)
           have P10 := Lib.hid (P8.out.next (below_trans (below_one _ _) b10))
           obtain ⟨u0, u1, u2⟩ := cells3 hrow
           obtain ⟨⟨d0, d1, d2⟩, f0⟩ := P10.out.cells
           have f00 := f0 0
           have f01 := f0 1
           have f02 := f0 2
           have g3 := (HBS.out.below P10.out.2).var 3 (by omega) (by omega)
           simp only [errG, errV] at g3
           clear hk hrow b10
           obtain ⟨nb, hnb, hnbl⟩ := as_bytes (nameT n1 n7 256)
           have hee := ne_err (some (S 2))
           have ngn := ne_nil.1
           have nen := ne_nil.2
           have ng2 := hee.1
           have ne2 := hee.2
           by_cases hm : MayT n1 n7 256
           · have hp : pathV S n1 n7 256 = .tuple #[.string nb, .nilIface] := by
               unfold pathV
               rw [if_pos hm, ← hnb]
               rfl
             rw [hp]
             by_cases hq : nameT n1 n7 256 = s.data.toList
             · have hns : nb = s := by
                 rw [← hnb, hq, back_bytes rfl]
               subst hns
               have HK2 := Lib.hid (HK.out.trans (if_pos ⟨hm, hq⟩))
               have hss : (nb.toList == nb.toList) = true := beq_self_eq_true _
               clear hnb hnbl hp
               go_wp2_with fail
               refine ret_tile rfl w.heap.size _ _ _ _ (set3_heap P10.out.1) rfl rfl rfl ⟨?_, ((P10.out.2.setCell (p := ⟨w.heap.size, 0, none⟩) (Nat.le_refl _) _).setCell (p := ⟨w.heap.size, 1, none⟩) (Nat.le_refl _) _).setCell (p := ⟨w.heap.size, 2, none⟩) (Nat.le_refl _) _⟩
               rw [HK2.out]
               rfl
             · have HK2 := Lib.hid (HK.out.trans (if_neg (fun h => hq h.2)))
               have hss : (nb.toList == s.toList) = false := by
                 rw [beq_eq_false_iff_ne, Lib.toList_data, Lib.toList_data, hnbl]
                 exact hq
               clear hnb hnbl hp
               go_wp2_with fail
               go_region
               all_goals
                 go_wp2_with fail
                 refine ret_tile rfl w.heap.size 0 0 0 _ (set3_heap P10.out.1) rfl rfl rfl ⟨?_, below_drewN (((P10.out.2.setCell (p := ⟨w.heap.size, 0, none⟩) (Nat.le_refl _) _).setCell (p := ⟨w.heap.size, 1, none⟩) (Nat.le_refl _) _).setCell (p := ⟨w.heap.size, 2, none⟩) (Nat.le_refl _) _) 1⟩
                 rw [HK2.out]
                 rfl
           · have hp : pathV S n1 n7 256 = .tuple #[.string ⟨#[]⟩, errV S 2] := by
               unfold pathV
               rw [if_neg hm]
             rw [hp]
             simp only [errV]
             have HK2 := Lib.hid (HK.out.trans (if_neg (fun h => hm h.1)))
             clear hnb hnbl hp
             go_wp2_with fail
             go_region
             all_goals
               go_wp2_with fail
               refine ret_tile rfl w.heap.size 0 0 0 _ (set3_heap P10.out.1) rfl rfl rfl ⟨?_, below_drewN (((P10.out.2.setCell (p := ⟨w.heap.size, 0, none⟩) (Nat.le_refl _) _).setCell (p := ⟨w.heap.size, 1, none⟩) (Nat.le_refl _) _).setCell (p := ⟨w.heap.size, 2, none⟩) (Nat.le_refl _) _) 1⟩
               rw [HK2.out]
               rfl)
    · go_wp2_with fail
      refine (HF7.out _ (HBS.out.below P7.out.2)).mono ?_
      rintro e w8 ⟨v7, bb7, rfl, ⟨ng7, ne7⟩, hv7, b8⟩
      have P8 := Lib.hid (P7.out.next b8)
      have HV7 := Lib.hid hv7
      clear b8 hv7
      go_wp2_with fail
      refine (HF4.out _ (HBS.out.below P8.out.2)).mono ?_
      rintro e w9 ⟨v4, bb4, rfl, ⟨ng4, ne4⟩, hv4, b9⟩
      have P9 := Lib.hid (P8.out.next b9)
      have HV4 := Lib.hid hv4
      clear b9 hv4
      have hB9 := HBS.out.below P9.out.2
      have g3 := hB9.var 3 (by omega) (by omega)
      simp only [errG, errV] at g3
      have gl := lt_of_cell (HBS.out.var 3 (by omega) (by omega))
      simp only [errG] at gl
      have gn1 : ¬ w.heap.size = 1 := by omega
      have gn2 : ¬ 1 = w.heap.size := by omega
      obtain ⟨⟨d0, d1, d2⟩, f0⟩ := P9.out.cells
      have f00 := f0 0
      have f01 := f0 1
      have f02 := f0 2
      have lz := lt_of_heap P9.out.1
      have HB9 := Lib.hid hB9
      clear gl hB9
      go_wp2_with fail
      all_goals first
        | (go_region
           all_goals
             go_wp2_with fail
             refine ret_tile rfl w.heap.size 0 0 0 _ (set3_heap P9.out.1) rfl rfl rfl ⟨?_, below_drewN (((P9.out.2.setCell (p := ⟨w.heap.size, 0, none⟩) (Nat.le_refl _) _).setCell (p := ⟨w.heap.size, 1, none⟩) (Nat.le_refl _) _).setCell (p := ⟨w.heap.size, 2, none⟩) (Nat.le_refl _) _) 1⟩
             rw [HNO.out (by
               rintro ⟨q0, q1, q2, q3, q4, q5, q6⟩
               rcases HV1.out with ⟨_, k1⟩ | ⟨k1, _⟩
               · rcases HV7.out with ⟨_, k7⟩ | ⟨k7, _⟩
                 · have q6x : n4 ≤ 256 := q6
                   rcases HV4.out with ⟨_, k4⟩ | ⟨k4, _⟩
                   rotate_left
                   exact absurd (q4 (by first | trivial | rfl)) k4
                   first
                     | exact absurd q0 (by assumption)
                     | exact absurd q1 (by assumption)
                     | exact absurd (show bb1 = true by assumption) (by rw [k1]; decide)
                     | exact absurd (show bb7 = true by assumption) (by rw [k7]; decide)
                     | exact absurd (show bb4 = true by assumption) (by rw [k4]; decide)
                     | omega
                 · exact absurd q3 k7
               · exact absurd q2 k1)]
             rfl)
        | (refine (path_any S n1 n7 (n4 : Int) (by omega) hn7 _ (HB9.out.below (below_one _ _)) (tab_below (tab_below HTAB.out P9.out.2) (below_one _ _))).mono ?_
           rintro e w10 ⟨rfl, b10⟩
           have hk : pv = if MayT n1 n7 (n4 : Int) ∧ nameT n1 n7 n4 = s.data.toList then .tuple #[.agg (tileV n1 n7 (n4 : Int)), .nilIface] else .tuple #[.agg (tileV 0 0 0), errV S 3] := HYES.out ⟨by assumption, by assumption, by
               rcases HV1.out with ⟨k, _⟩ | ⟨_, k⟩
               · exact k
               · exact absurd k (by assumption), by
               rcases HV7.out with ⟨k, _⟩ | ⟨_, k⟩
               · exact k
               · exact absurd k (by assumption), (fun _ => by
               rcases HV4.out with ⟨k, _⟩ | ⟨_, k⟩
               · exact k
               · exact absurd k (by assumption)), by omega, by show n4 ≤ 256; omega⟩
           have HK := Lib.hid hk
           have hrow := below_heap b10 (heap_one w9 _)
           have P10 := Lib.hid (P9.out.next (below_trans (below_one _ _) b10))
           obtain ⟨u0, u1, u2⟩ := cells3 hrow
           obtain ⟨⟨d0, d1, d2⟩, f0⟩ := P10.out.cells
           have f00 := f0 0
           have f01 := f0 1
           have f02 := f0 2
           have g3 := (HBS.out.below P10.out.2).var 3 (by omega) (by omega)
           simp only [errG, errV] at g3
           clear hk hrow b10
           obtain ⟨nb, hnb, hnbl⟩ := as_bytes (nameT n1 n7 n4)
           have hee := ne_err (some (S 2))
           have ngn := ne_nil.1
           have nen := ne_nil.2
           have ng2 := hee.1
           have ne2 := hee.2
           by_cases hm : MayT n1 n7 (n4 : Int)
           · have hp : pathV S n1 n7 (n4 : Int) = .tuple #[.string nb, .nilIface] := by
               unfold pathV
               rw [if_pos hm, ← hnb]
               rfl
             rw [hp]
             by_cases hq : nameT n1 n7 n4 = s.data.toList
             · have hns : nb = s := by
                 rw [← hnb, hq, back_bytes rfl]
               subst hns
               have HK2 := Lib.hid (HK.out.trans (if_pos ⟨hm, hq⟩))
               have hss : (nb.toList == nb.toList) = true := beq_self_eq_true _
               clear hnb hnbl hp
               go_wp2_with fail
               refine ret_tile rfl w.heap.size _ _ _ _ (set3_heap P10.out.1) rfl rfl rfl ⟨?_, ((P10.out.2.setCell (p := ⟨w.heap.size, 0, none⟩) (Nat.le_refl _) _).setCell (p := ⟨w.heap.size, 1, none⟩) (Nat.le_refl _) _).setCell (p := ⟨w.heap.size, 2, none⟩) (Nat.le_refl _) _⟩
               rw [HK2.out]
               rfl
             · have HK2 := Lib.hid (HK.out.trans (if_neg (fun h => hq h.2)))
               have hss : (nb.toList == s.toList) = false := by
                 rw [beq_eq_false_iff_ne, Lib.toList_data, Lib.toList_data, hnbl]
                 exact hq
               clear hnb hnbl hp
               go_wp2_with fail
               go_region
               all_goals
                 go_wp2_with fail
                 refine ret_tile rfl w.heap.size 0 0 0 _ (set3_heap P10.out.1) rfl rfl rfl ⟨?_, below_drewN (((P10.out.2.setCell (p := ⟨w.heap.size, 0, none⟩) (Nat.le_refl _) _).setCell (p := ⟨w.heap.size, 1, none⟩) (Nat.le_refl _) _).setCell (p := ⟨w.heap.size, 2, none⟩) (Nat.le_refl _) _) 1⟩
                 rw [HK2.out]
                 rfl
           · have hp : pathV S n1 n7 (n4 : Int) = .tuple #[.string ⟨#[]⟩, errV S 2] := by
               unfold pathV
               rw [if_neg hm]
             rw [hp]
             simp only [errV]
             have HK2 := Lib.hid (HK.out.trans (if_neg (fun h => hm h.1)))
             clear hnb hnbl hp
             go_wp2_with fail
             go_region
             all_goals
               go_wp2_with fail
               refine ret_tile rfl w.heap.size 0 0 0 _ (set3_heap P10.out.1) rfl rfl rfl ⟨?_, below_drewN (((P10.out.2.setCell (p := ⟨w.heap.size, 0, none⟩) (Nat.le_refl _) _).setCell (p := ⟨w.heap.size, 1, none⟩) (Nat.le_refl _) _).setCell (p := ⟨w.heap.size, 2, none⟩) (Nat.le_refl _) _) 1⟩
               rw [HK2.out]
               rfl)
  · subst h7
    rcases (Bool.eq_false_or_eq_true b2).symm with rfl | rfl
    · have ngn := ne_nil.1
      have nen := ne_nil.2
      go_wp2_with fail
      refine (HF7.out _ (HBS.out.below P7.out.2)).mono ?_
      rintro e w8 ⟨v7, bb7, rfl, ⟨ng7, ne7⟩, hv7, b8⟩
      have P8 := Lib.hid (P7.out.next b8)
      have HV7 := Lib.hid hv7
      clear b8 hv7
      have hB9 := HBS.out.below P8.out.2
      have g3 := hB9.var 3 (by omega) (by omega)
      simp only [errG, errV] at g3
      have gl := lt_of_cell (HBS.out.var 3 (by omega) (by omega))
      simp only [errG] at gl
      have gn1 : ¬ w.heap.size = 1 := by omega
      have gn2 : ¬ 1 = w.heap.size := by omega
      obtain ⟨⟨d0, d1, d2⟩, f0⟩ := P8.out.cells
      have f00 := f0 0
      have f01 := f0 1
      have f02 := f0 2
      have lz := lt_of_heap P8.out.1
      have HB9 := Lib.hid hB9
      clear gl hB9
      go_wp2_with fail
      all_goals first
        | (go_region
           all_goals
             go_wp2_with fail
             refine ret_tile rfl w.heap.size 0 0 0 _ (set3_heap P8.out.1) rfl rfl rfl ⟨?_, below_drewN (((P8.out.2.setCell (p := ⟨w.heap.size, 0, none⟩) (Nat.le_refl _) _).setCell (p := ⟨w.heap.size, 1, none⟩) (Nat.le_refl _) _).setCell (p := ⟨w.heap.size, 2, none⟩) (Nat.le_refl _) _) 1⟩
             rw [HNO.out (by
               rintro ⟨q0, q1, q2, q3, q4, q5, q6⟩
               rcases HV1.out with ⟨_, k1⟩ | ⟨k1, _⟩
               · rcases HV7.out with ⟨_, k7⟩ | ⟨k7, _⟩
                 · first
                     | exact absurd q0 (by assumption)
                     | exact absurd q1 (by assumption)
                     | exact absurd (show bb1 = true by assumption) (by rw [k1]; decide)
                     | exact absurd (show bb7 = true by assumption) (by rw [k7]; decide)
                     | omega
                 · exact absurd q3 k7
               · exact absurd q2 k1)]
             rfl)
        | (refine (path_any S n1 n7 256 (by omega) hn7 _ (HB9.out.below (below_one _ _)) (tab_below (tab_below HTAB.out P8.out.2) (below_one _ _))).mono ?_
           rintro e w10 ⟨rfl, b10⟩
           have hk : pv = if MayT n1 n7 256 ∧ nameT n1 n7 256 = s.data.toList then .tuple #[.agg (tileV n1 n7 256), .nilIface] else .tuple #[.agg (tileV 0 0 0), errV S 3] := HYES.out ⟨by assumption, by assumption, by
               rcases HV1.out with ⟨k, _⟩ | ⟨_, k⟩
               · exact k
               · exact absurd k (by assumption), by
               rcases HV7.out with ⟨k, _⟩ | ⟨_, k⟩
               · exact k
               · exact absurd k (by assumption), (fun h => by cases h), by omega, by show (256 : Nat) ≤ 256; exact Nat.le_refl _⟩
           have HK := Lib.hid hk
           have hrow := below_heap b10 (heap_one w8 _)
           have P10 := Lib.hid (P8.out.next (below_trans (below_one _ _) b10))
           obtain ⟨u0, u1, u2⟩ := cells3 hrow
           obtain ⟨⟨d0, d1, d2⟩, f0⟩ := P10.out.cells
           have f00 := f0 0
           have f01 := f0 1
           have f02 := f0 2
           have g3 := (HBS.out.below P10.out.2).var 3 (by omega) (by omega)
           simp only [errG, errV] at g3
           clear hk hrow b10
           obtain ⟨nb, hnb, hnbl⟩ := as_bytes (nameT n1 n7 256)
           have hee := ne_err (some (S 2))
           have ngn := ne_nil.1
           have nen := ne_nil.2
           have ng2 := hee.1
           have ne2 := hee.2
           by_cases hm : MayT n1 n7 256
           · have hp : pathV S n1 n7 256 = .tuple #[.string nb, .nilIface] := by
               unfold pathV
               rw [if_pos hm, ← hnb]
               rfl
             rw [hp]
             by_cases hq : nameT n1 n7 256 = s.data.toList
             · have hns : nb = s := by
                 rw [← hnb, hq, back_bytes rfl]
               subst hns
               have HK2 := Lib.hid (HK.out.trans (if_pos ⟨hm, hq⟩))
               have hss : (nb.toList == nb.toList) = true := beq_self_eq_true _
               clear hnb hnbl hp
               go_wp2_with fail
               refine ret_tile rfl w.heap.size _ _ _ _ (set3_heap P10.out.1) rfl rfl rfl ⟨?_, ((P10.out.2.setCell (p := ⟨w.heap.size, 0, none⟩) (Nat.le_refl _) _).setCell (p := ⟨w.heap.size, 1, none⟩) (Nat.le_refl _) _).setCell (p := ⟨w.heap.size, 2, none⟩) (Nat.le_refl _) _⟩
               rw [HK2.out]
               rfl
             · have HK2 := Lib.hid (HK.out.trans (if_neg (fun h => hq h.2)))
               have hss : (nb.toList == s.toList) = false := by
                 rw [beq_eq_false_iff_ne, Lib.toList_data, Lib.toList_data, hnbl]
                 exact hq
               clear hnb hnbl hp
               go_wp2_with fail
               go_region
               all_goals
                 go_wp2_with fail
                 refine ret_tile rfl w.heap.size 0 0 0 _ (set3_heap P10.out.1) rfl rfl rfl ⟨?_, below_drewN (((P10.out.2.setCell (p := ⟨w.heap.size, 0, none⟩) (Nat.le_refl _) _).setCell (p := ⟨w.heap.size, 1, none⟩) (Nat.le_refl _) _).setCell (p := ⟨w.heap.size, 2, none⟩) (Nat.le_refl _) _) 1⟩
                 rw [HK2.out]
                 rfl
           · have hp : pathV S n1 n7 256 = .tuple #[.string ⟨#[]⟩, errV S 2] := by
               unfold pathV
               rw [if_neg hm]
             rw [hp]
             simp only [errV]
             have HK2 := Lib.hid (HK.out.trans (if_neg (fun h => hm h.1)))
             clear hnb hnbl hp
             go_wp2_with fail
             go_region
             all_goals
               go_wp2_with fail
               refine ret_tile rfl w.heap.size 0 0 0 _ (set3_heap P10.out.1) rfl rfl rfl ⟨?_, below_drewN (((P10.out.2.setCell (p := ⟨w.heap.size, 0, none⟩) (Nat.le_refl _) _).setCell (p := ⟨w.heap.size, 1, none⟩) (Nat.le_refl _) _).setCell (p := ⟨w.heap.size, 2, none⟩) (Nat.le_refl _) _) 1⟩
               rw [HK2.out]
               rfl)
    · go_wp2_with fail
      refine (HF7.out _ (HBS.out.below P7.out.2)).mono ?_
      rintro e w8 ⟨v7, bb7, rfl, ⟨ng7, ne7⟩, hv7, b8⟩
      have P8 := Lib.hid (P7.out.next b8)
      have HV7 := Lib.hid hv7
      clear b8 hv7
      go_wp2_with fail
      refine (HF4.out _ (HBS.out.below P8.out.2)).mono ?_
      rintro e w9 ⟨v4, bb4, rfl, ⟨ng4, ne4⟩, hv4, b9⟩
      have P9 := Lib.hid (P8.out.next b9)
      have HV4 := Lib.hid hv4
      clear b9 hv4
      have hB9 := HBS.out.below P9.out.2
      have g3 := hB9.var 3 (by omega) (by omega)
      simp only [errG, errV] at g3
      have gl := lt_of_cell (HBS.out.var 3 (by omega) (by omega))
      simp only [errG] at gl
      have gn1 : ¬ w.heap.size = 1 := by omega
      have gn2 : ¬ 1 = w.heap.size := by omega
      obtain ⟨⟨d0, d1, d2⟩, f0⟩ := P9.out.cells
      have f00 := f0 0
      have f01 := f0 1
      have f02 := f0 2
      have lz := lt_of_heap P9.out.1
      have HB9 := Lib.hid hB9
      clear gl hB9
      go_wp2_with fail
      all_goals first
        | (go_region
           all_goals
             go_wp2_with fail
             refine ret_tile rfl w.heap.size 0 0 0 _ (set3_heap P9.out.1) rfl rfl rfl ⟨?_, below_drewN (((P9.out.2.setCell (p := ⟨w.heap.size, 0, none⟩) (Nat.le_refl _) _).setCell (p := ⟨w.heap.size, 1, none⟩) (Nat.le_refl _) _).setCell (p := ⟨w.heap.size, 2, none⟩) (Nat.le_refl _) _) 1⟩
             rw [HNO.out (by
               rintro ⟨q0, q1, q2, q3, q4, q5, q6⟩
               rcases HV1.out with ⟨_, k1⟩ | ⟨k1, _⟩
               · rcases HV7.out with ⟨_, k7⟩ | ⟨k7, _⟩
                 · have q6x : n4 ≤ 256 := q6
                   rcases HV4.out with ⟨_, k4⟩ | ⟨k4, _⟩
                   rotate_left
                   exact absurd (q4 (by first | trivial | rfl)) k4
                   first
                     | exact absurd q0 (by assumption)
                     | exact absurd q1 (by assumption)
                     | exact absurd (show bb1 = true by assumption) (by rw [k1]; decide)
                     | exact absurd (show bb7 = true by assumption) (by rw [k7]; decide)
                     | exact absurd (show bb4 = true by assumption) (by rw [k4]; decide)
                     | omega
                 · exact absurd q3 k7
               · exact absurd q2 k1)]
             rfl)
        | (refine (path_any S n1 n7 (n4 : Int) (by omega) hn7 _ (HB9.out.below (below_one _ _)) (tab_below (tab_below HTAB.out P9.out.2) (below_one _ _))).mono ?_
           rintro e w10 ⟨rfl, b10⟩
           have hk : pv = if MayT n1 n7 (n4 : Int) ∧ nameT n1 n7 n4 = s.data.toList then .tuple #[.agg (tileV n1 n7 (n4 : Int)), .nilIface] else .tuple #[.agg (tileV 0 0 0), errV S 3] := HYES.out ⟨by assumption, by assumption, by
               rcases HV1.out with ⟨k, _⟩ | ⟨_, k⟩
               · exact k
               · exact absurd k (by assumption), by
               rcases HV7.out with ⟨k, _⟩ | ⟨_, k⟩
               · exact k
               · exact absurd k (by assumption), (fun _ => by
               rcases HV4.out with ⟨k, _⟩ | ⟨_, k⟩
               · exact k
               · exact absurd k (by assumption)), by omega, by show n4 ≤ 256; omega⟩
           have HK := Lib.hid hk
           have hrow := below_heap b10 (heap_one w9 _)
           have P10 := Lib.hid (P9.out.next (below_trans (below_one _ _) b10))
           obtain ⟨u0, u1, u2⟩ := cells3 hrow
           obtain ⟨⟨d0, d1, d2⟩, f0⟩ := P10.out.cells
           have f00 := f0 0
           have f01 := f0 1
           have f02 := f0 2
           have g3 := (HBS.out.below P10.out.2).var 3 (by omega) (by omega)
           simp only [errG, errV] at g3
           clear hk hrow b10
           obtain ⟨nb, hnb, hnbl⟩ := as_bytes (nameT n1 n7 n4)
           have hee := ne_err (some (S 2))
           have ngn := ne_nil.1
           have nen := ne_nil.2
           have ng2 := hee.1
           have ne2 := hee.2
           by_cases hm : MayT n1 n7 (n4 : Int)
           · have hp : pathV S n1 n7 (n4 : Int) = .tuple #[.string nb, .nilIface] := by
               unfold pathV
               rw [if_pos hm, ← hnb]
               rfl
             rw [hp]
             by_cases hq : nameT n1 n7 n4 = s.data.toList
             · have hns : nb = s := by
                 rw [← hnb, hq, back_bytes rfl]
               subst hns
               have HK2 := Lib.hid (HK.out.trans (if_pos ⟨hm, hq⟩))
               have hss : (nb.toList == nb.toList) = true := beq_self_eq_true _
               clear hnb hnbl hp
               go_wp2_with fail
               refine ret_tile rfl w.heap.size _ _ _ _ (set3_heap P10.out.1) rfl rfl rfl ⟨?_, ((P10.out.2.setCell (p := ⟨w.heap.size, 0, none⟩) (Nat.le_refl _) _).setCell (p := ⟨w.heap.size, 1, none⟩) (Nat.le_refl _) _).setCell (p := ⟨w.heap.size, 2, none⟩) (Nat.le_refl _) _⟩
               rw [HK2.out]
               rfl
             · have HK2 := Lib.hid (HK.out.trans (if_neg (fun h => hq h.2)))
               have hss : (nb.toList == s.toList) = false := by
                 rw [beq_eq_false_iff_ne, Lib.toList_data, Lib.toList_data, hnbl]
                 exact hq
               clear hnb hnbl hp
               go_wp2_with fail
               go_region
               all_goals
                 go_wp2_with fail
                 refine ret_tile rfl w.heap.size 0 0 0 _ (set3_heap P10.out.1) rfl rfl rfl ⟨?_, below_drewN (((P10.out.2.setCell (p := ⟨w.heap.size, 0, none⟩) (Nat.le_refl _) _).setCell (p := ⟨w.heap.size, 1, none⟩) (Nat.le_refl _) _).setCell (p := ⟨w.heap.size, 2, none⟩) (Nat.le_refl _) _) 1⟩
                 rw [HK2.out]
                 rfl
           · have hp : pathV S n1 n7 (n4 : Int) = .tuple #[.string ⟨#[]⟩, errV S 2] := by
               unfold pathV
               rw [if_neg hm]
             rw [hp]
             simp only [errV]
             have HK2 := Lib.hid (HK.out.trans (if_neg (fun h => hm h.1)))
             clear hnb hnbl hp
             go_wp2_with fail
             go_region
             all_goals
               go_wp2_with fail
               refine ret_tile rfl w.heap.size 0 0 0 _ (set3_heap P10.out.1) rfl rfl rfl ⟨?_, below_drewN (((P10.out.2.setCell (p := ⟨w.heap.size, 0, none⟩) (Nat.le_refl _) _).setCell (p := ⟨w.heap.size, 1, none⟩) (Nat.le_refl _) _).setCell (p := ⟨w.heap.size, 2, none⟩) (Nat.le_refl _) _) 1⟩
               rw [HK2.out]
               rfl)
end Go.Proofs.YtlahdjdbbfjadaaGreatDoor
