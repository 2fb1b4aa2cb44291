/-
  cartularylaw01: a list of hashes copied, a mark behind it; is it still so: markHash, isHash, TwinHashes, LeftHashes by their contracts. cartularyref11.Encode and Decode by their contracts. cartularyref11.Decode by its contracts. PROVED: cartularylaw11.TileBytes returns true for every list of hashes, text and width (the tied card of its row): any hashes as bytes, any bytes as hashes, or the errors; the list stays, each list is new memory. Conditions: those of the row. PROVED: cartularylaw11.TileBytes returns true for every list of hashes, text and width (the tied card of its row): any hashes as bytes, any bytes as hashes, or the errors; the list stays, each list is new memory. Conditions: those of the row.
-/
import Derived.Test.YtlahdjdbbfjadaaGreatDoorRefTree
import Derived.Test.YtlahdjdbbfjadaaGreatDoorHashD
import Derived.Test.YtlahdjdbbfjadaaGreatDoorHashOpen
import Derived.StillTailTactics
import Derived.Test.YtlahdjdbbfjadaaGreatDoorBookAHa
import Derived.Test.YtlahdjdbbfjadaaGreatDoorTileLives
import Derived.Test.YtlahdjdbbfjadaaGreatDoorTileBytesFrame
namespace Go.Proofs.YtlahdjdbbfjadaaGreatDoor
open Go.RowKit

/-- The mark behind a copy. -/
def twinMark : List UInt8 := [97, 30, 0] ++ List.replicate 28 0 ++ [201]
theorem range_newT (w : World) (l : List UInt8) : (w.alloc (.cells (Lib.byteCells l).toArray 70)).rangeAt w.heap.size 0 (Lib.byteCells l) := fun j v hv => by
  rw [Nat.zero_add]
  exact cell_of (heap_one w _) j (by simpa using hv)
set_option maxHeartbeats 4000000 in
set_option maxRecDepth 100000 in
theorem markHash_any (w : World) : Calls Tryz.prog 27 #[.int .i64 7777] w fun e w' => e = .returned (.agg (Lib.byteCells twinMark).toArray) ∧ Below w.heap.size w w' := by
  obtain ⟨zl, hzl, hz32⟩ := zero_bytesR
  have HZL := Lib.hid (show (Lib.byteCells zl).toArray.size = 32 by rw [List.size_toArray, Lib.byteCells_length, hzl]; rfl)
  have HMS := Lib.hid (show (Lib.byteCells twinMark).toArray.size = 32 by rw [List.size_toArray, Lib.byteCells_length]; rfl)
  have hO := heap_one w (.cells (Lib.byteCells zl).toArray 70)
  have hB := below_one w (.cells (Lib.byteCells zl).toArray 70)
  clear hzl
  go_enter Tryz.func27, Tryz.ntmps27
  go_upto_region 1 with fail
  generalize (w.alloc (.cells (Lib.byteCells zl).toArray 70)) = w1 at *
  have HO := Lib.hid hO
  have HRE := Lib.hid (setRow_heap w1 w.heap.size _ (Lib.byteCells twinMark).toArray 70 (0, 0) hO)
  have HBR := Lib.hid (below_setRow hB (Nat.le_refl _) (Lib.byteCells twinMark).toArray)
  clear hO hB hz32
  go_wp2_with (first | (refine wpList_run (by rfl) ⟨_, _, rfl⟩ (.agg (Lib.byteCells twinMark).toArray) (fun w => by kernel_rfl) ?_) | (refine wpList_store_row (by rfl) 70 (.tmp 2) (.tmp 11) (by rfl) w.heap.size (Lib.byteCells twinMark).toArray (by rfl) (by rfl) 70 (Lib.byteCells zl).toArray HO.out (by rw [HMS.out]; exact hashInfo) (by rw [HMS.out, HZL.out]) (byteCells_one twinMark) ?_))
  exact bodyPost_ret (results_row0 rfl _ _ w.heap.size 70 _ (0, 0) _ rfl HRE.out Tryz.underlying70 rfl (by rw [HMS.out]; exact hashInfo)) rfl ⟨rfl, HBR.out⟩
set_option maxHeartbeats 4000000 in
set_option maxRecDepth 100000 in
theorem isHash_any (w : World) : Calls Tryz.prog 33 #[.agg (Lib.byteCells twinMark).toArray, .int .i64 7777] w fun e w' => e = .returned (.bool true) ∧ Below w.heap.size w w' := by
  have HML := Lib.hid (show twinMark.length = 32 from rfl)
  have HR := Lib.hid (range_newT w twinMark)
  have HB := Lib.hid (below_one w (.cells (Lib.byteCells twinMark).toArray 70))
  go_enter Tryz.func33, Tryz.ntmps33
  go_upto_region 1 with fail
  go_wp2_with (first | (refine wpList_hashLoad (by rfl) (.tmp 2) (by rfl) w.heap.size 0 (by rfl) twinMark HML.out HR.out ?_) | (refine wpList_run (by rfl) ⟨_, _, rfl⟩ (.agg (Lib.byteCells twinMark).toArray) (fun w => by kernel_rfl) ?_) | (refine wpList_hashEq (by rfl) (.tmp 5) (.tmp 14) _ (by rfl) twinMark (by rfl) (by rfl) HML.out ?_))
  go_ret
  exact ⟨rfl, HB.out⟩
theorem make_hashes (n : Nat) (hn : n ≤ 1048577) (W : World) : ∃ cs : Array Value, cs.size = 32 * n ∧ (Instr.makeSlice 22 (.int .i64 (n : Int)) (.int .i64 (n : Int))).run Tryz.prog W = .ok (.slice (some ⟨W.heap.size, 0, none⟩) n n) (W.alloc (.cells cs 70)) := by
  obtain ⟨i0, hi, hz⟩ := Option.map_eq_some_iff.1 infoHash
  simp only [Prod.mk.injEq] at hz
  obtain ⟨hz0, hz1, hz2⟩ := hz
  have h := run_make (P := Tryz.prog) W 22 70 i0 (.agg (Array.replicate 32 (.int .u8 0))) Tryz.underlying22 hi hz0 .i64 .i64 (n : Int) (n : Int) (by omega) (Int.le_refl _) (by rw [hz2]; omega) (by omega)
  rw [Int.toNat_natCast] at h
  exact ⟨_, by rw [size_madeCells, hz1, Nat.mul_comm], h⟩
set_option maxHeartbeats 4000000 in
set_option maxRecDepth 100000 in
theorem twinHashes_any (v : Value) (n : Nat) (l : List UInt8) (w : World) (hv : HashIn w v n l) (hn : n ≤ 1048576) :
    Calls Tryz.prog 8 #[v] w fun e w' => (∃ g, e = .returned (.slice (some ⟨g, 0, none⟩) n (n + 1)) ∧ g < w'.heap.size ∧ w'.rangeAt g 0 (Lib.byteCells (l ++ twinMark))) ∧ Below w.heap.size w w' := by
  obtain ⟨hl, ao, cap, rfl, hr⟩ := hv
  have HR := Lib.hid hr
  have HLN := Lib.hid hl
  obtain ⟨cs, hcs, hmk⟩ := make_hashes (n + 1) (by omega) w
  have hth : (w.alloc (.cells cs 70)).there w.heap.size 0 (32 * (n + 1)) := there_row (lo := 0) (hi := 0) (heap_one w _) (by omega) (.inr (Nat.le_refl _))
  have hb1 := below_one w (.cells cs 70)
  have hlw : w.heap.size < (w.alloc (.cells cs 70)).heap.size := by simp
  rw [Int.natCast_add] at hmk
  have e1 : ((1 : Nat) : Int) = 1 := rfl
  rw [e1] at hmk
  have HMI := Lib.hid (hashInfo)
  have n0 : (n : Int) + 1 ≤ 1048577 := by omega
  clear hl hr hcs e1
  go_enter Tryz.func8, Tryz.ntmps8
  go_wp2_with fail
  generalize (w.alloc (.cells cs 70)) = w1 at *
  have HTH := Lib.hid hth
  have HB1 := Lib.hid hb1
  have HLW := Lib.hid hlw
  clear hth hb1 hlw hmk
  go_loopw [4] (fun vi wr => ∃ i : Nat, i ≤ n ∧ vi = .int .i64 (i : Int) ∧ wr.rangeAt w.heap.size 0 (Lib.byteCells (l.take (32 * i))) ∧ wr.there w.heap.size 0 (32 * (n + 1)) ∧ Below w.heap.size w wr ∧ w.heap.size < wr.heap.size) (fun vi _ => n - (intOf vi).toNat)
  case atStart => exact ⟨0, Nat.zero_le _, rfl, fun j v hv => by simp [Lib.byteCells] at hv, HTH.out, HB1.out, HLW.out⟩
  case round =>
    obtain ⟨i, hin, rfl, hrg, hth, hbel, hlw⟩ := hrel
    rename World => wA
    have HRG := Lib.hid hrg
    have HTA := Lib.hid hth
    have HBE := Lib.hid hbel
    have HLA := Lib.hid hlw
    clear hrg hth hbel hlw HTH HB1 HLW
    by_cases hi : i < n
    · have i1 : (i : Int) < (n : Int) := by omega
      have i2 : (i : Int) < (n : Int) + 1 := by omega
      have i0 : (0 : Int) ≤ (i : Int) := by omega
      obtain ⟨g, o, rfl, hg⟩ := HR.out (by omega)
      obtain ⟨hb, hhb⟩ : ∃ hb, hashAt l i = hb := ⟨_, rfl⟩
      have HHL := Lib.hid (show hb.length = 32 by rw [← hhb]; exact hashAt_len HLN.out hi)
      have HHS := Lib.hid (show (Lib.byteCells hb).toArray.size = 32 by rw [List.size_toArray, Lib.byteCells_length, HHL.out])
      have HRA := Lib.hid (show wA.rangeAt g (o + i * 32) (Lib.byteCells hb) by rw [← hhb]; exact range_at (range_below HBE.out hg) i)
      have HTK := Lib.hid (show l.take (32 * (i + 1)) = l.take (32 * i) ++ hb by rw [← hhb]; exact take_hash l i)
      have hgw : g < wA.heap.size := by
        obtain ⟨b, hb0⟩ : ∃ b, l[0]? = some b := ⟨_, List.getElem?_eq_getElem (by have := HLN.out; omega)⟩
        exact lt_of_cell (range_below HBE.out hg 0 _ (by unfold Lib.byteCells; rw [List.getElem?_map, hb0]; rfl))
      have HTI := Lib.hid (show wA.there w.heap.size (i * 32) 32 from fun j hj => by
        have := HTA.out (i * 32 + j) (by omega)
        rwa [Nat.zero_add] at this)
      have hwA : w.heap.size < wA.heap.size := HLA.out
      clear hg hhb
      go_wp2_with (first | (refine wpList_hashLoad (by rfl) (.tmp 19) (by rfl) g (o + i * 32) (by rfl) hb HHL.out HRA.out ?_) | (refine wpList_store_mid (by rfl) 70 (.tmp 21) (.tmp 20) (by rfl) w.heap.size (i * 32) (Lib.byteCells hb).toArray (by rfl) (by rfl) (by rw [HHS.out]; exact HTI.out) (by rw [HHS.out]; exact hashInfo) (byteCells_one hb) ?_))
      go_roundw
      case rel =>
        refine ⟨i + 1, hi, by go_num, ?_, World.there_setCells HTA.out _ _ _, below_setCells (Nat.le_refl _) _ _ _ HBE.out, Nat.lt_of_lt_of_le HLA.out (below_setCells (B := 0) (Nat.zero_le _) _ _ wA (Below.refl _ _)).size⟩
        rw [HTK.out, ← byteCells_app]
        have hlen : (Lib.byteCells (l.take (32 * i))).length = 32 * i := by
          rw [Lib.byteCells_length, List.length_take, HLN.out]
          omega
        refine range_app (World.rangeAt_setCells_apart HRG.out _ _ _ (.inr (.inl (by rw [hlen]; omega)))) ?_
        rw [hlen, Nat.zero_add, Nat.mul_comm 32 i]
        refine World.rangeAt_setCells_same _ _ _ _ (fun j hj => HTI.out j (by have := HHS.out; simp at hj this; omega))
      case measure => simp [intOf]; omega
    · obtain rfl : i = n := by omega
      have i1 : ¬ (i : Int) < (i : Int) := by omega
      have i2 : (i : Int) < (i : Int) + 1 := by omega
      have i0 : (0 : Int) ≤ (i : Int) := by omega
      have hfull := HRG.out
      rw [List.take_of_length_le (by rw [HLN.out]; exact Nat.le_refl _)] at hfull
      have HFU := Lib.hid hfull
      obtain ⟨mk, hmk⟩ : ∃ mk, twinMark = mk := ⟨_, rfl⟩
      have HMK := Lib.hid hmk
      have HMH := Lib.hid (by have h := markHash_any wA; rw [hmk] at h; exact h : Calls Tryz.prog 27 #[.int .i64 7777] wA fun e w' => e = .returned (.agg (Lib.byteCells mk).toArray) ∧ Below wA.heap.size wA w')
      have HMS := Lib.hid (show (Lib.byteCells mk).toArray.size = 32 by rw [List.size_toArray, Lib.byteCells_length, ← hmk]; rfl)
      have HTI := Lib.hid (show wA.there w.heap.size (i * 32) 32 from fun j hj => by
        have := HTA.out (i * 32 + j) (by omega)
        rwa [Nat.zero_add] at this)
      clear hfull hmk
      go_wp2_with (go_at_call 27; refine HMH.out.mono ?_)
      first
        | rintro e w2 rfl hb2
        | rintro e w2 ⟨rfl, hb2⟩
      have HTI2 := Lib.hid (there_heap HTI.out (hb2.block w.heap.size HLA.out))
      have HFU2 := Lib.hid (range_below hb2 HFU.out)
      have HB2 := Lib.hid (HBE.out.trans (hb2.mono HBE.out.size))
      have hwA : w.heap.size < w2.heap.size := Nat.lt_of_lt_of_le HLA.out hb2.size
      have HLA2 := Lib.hid hwA
      clear hb2
      go_wp2_with (refine wpList_store_mid (by rfl) 70 (.tmp 26) (.tmp 25) (by rfl) w.heap.size (i * 32) (Lib.byteCells mk).toArray (by rfl) (by rfl) (by rw [HMS.out]; exact HTI2.out) (by rw [HMS.out]; exact hashInfo) (byteCells_one mk) ?_)
      go_ret
      refine ⟨⟨w.heap.size, rfl, Nat.lt_of_lt_of_le HLA2.out (below_setCells (B := 0) (Nat.zero_le _) _ _ w2 (Below.refl _ _)).size, ?_⟩, below_setCells (Nat.le_refl _) _ _ _ HB2.out⟩
      rw [← byteCells_app, HMK.out]
      have hlen : (Lib.byteCells l).length = 32 * i := by rw [Lib.byteCells_length, HLN.out]
      refine range_app (World.rangeAt_setCells_apart HFU2.out _ _ _ (.inr (.inl (by rw [hlen]; omega)))) ?_
      rw [hlen, Nat.zero_add, Nat.mul_comm 32 i]
      refine World.rangeAt_setCells_same _ _ _ _ (fun j hj => HTI2.out j (by have := HMS.out; simp at hj this; omega))
set_option maxHeartbeats 4000000 in
set_option maxRecDepth 100000 in
theorem leftHashes_any (v : Value) (n g : Nat) (l : List UInt8) (w : World) (hv : HashIn w v n l) (hn : n ≤ 1048576) (hg : g < w.heap.size) (hr : w.rangeAt g 0 (Lib.byteCells (l ++ twinMark))) :
    Calls Tryz.prog 15 #[.slice (some ⟨g, 0, none⟩) n (n + 1), v] w fun e w' => e = .returned (.bool true) ∧ Below w.heap.size w w' := by
  have hl := hv.1
  have hin : HashIn w (.slice (some ⟨g, 0, none⟩) n (n + 1)) n l := ⟨hl, _, _, rfl, fun _ => ⟨g, 0, rfl, by
    have h := range_part hr 0 (32 * n)
    rw [List.drop_zero, List.take_left' (by omega)] at h
    exact h⟩⟩
  have hmr : w.rangeAt g (n * 32) (Lib.byteCells twinMark) := by
    have h := range_part hr (32 * n) 32
    rw [List.drop_left' (by omega), show twinMark.take 32 = twinMark from rfl, Nat.zero_add, Nat.mul_comm] at h
    exact h
  have HSH := Lib.hid (sameHashes_any (.slice (some ⟨g, 0, none⟩) n (n + 1)) v n l w (by omega) hin hv)
  obtain ⟨_, ao, cap, rfl, _⟩ := hv
  have HMR := Lib.hid hmr
  have HML := Lib.hid (show twinMark.length = 32 from rfl)
  have n0 : (n : Int) + 1 ≤ 1048577 := by omega
  have n1 : (0 : Int) ≤ (n : Int) + 1 := by omega
  have n2 : ((n : Int) + 1).toNat = n + 1 := by omega
  have n3 : (n : Int) < (n : Int) + 1 := by omega
  have n4 : (0 : Int) ≤ (n : Int) := by omega
  have HIS := Lib.hid isHash_any
  clear hl hin hmr hr
  generalize twinMark = mk at *
  go_enter Tryz.func15, Tryz.ntmps15
  go_wp2_with (go_at_call 14; refine HSH.out.mono ?_)
  first
    | rintro e w2 rfl hb2
    | rintro e w2 ⟨rfl, hb2⟩
  have HM2 := Lib.hid (range_below hb2 HMR.out)
  have hg2 : g < w2.heap.size := Nat.lt_of_lt_of_le hg hb2.size
  have HB2 := Lib.hid hb2
  clear hb2
  go_wp2_with (first | (refine wpList_hashLoad (by rfl) (.tmp 16) (by rfl) g (n * 32) (by rfl) mk HML.out HM2.out ?_) | (go_at_call 33; refine (HIS.out _).mono ?_))
  first
    | rintro e w3 rfl hb3
    | rintro e w3 ⟨rfl, hb3⟩
  have HB3 := Lib.hid (HB2.out.trans (hb3.mono HB2.out.size))
  clear hb3
  go_wp2_with fail
  go_ret
  exact ⟨rfl, HB3.out⟩
end Go.Proofs.YtlahdjdbbfjadaaGreatDoor

namespace Go.Proofs.YtlahdjdbbfjadaaGreatDoor
open Go.RowKit

theorem faultInfoE : (Tryz.prog.info? 30).map (·.size) = some 2 := by kernel_rfl
theorem one2E (x y : Int) : (#[.int .i64 x, .int .i64 y] : Array Value).all (·.oneCell') = true := by
  rw [List.all_toArray]
  rfl
theorem faultPlainE (c : Int) (hc : c ≠ 0) (w : World) :
    Calls Tryz.prog 30 #[.int .i64 c] w fun e w' => e = .returned (.agg #[.int .i64 c, .int .i64 (-1)]) ∧ Below w.heap.size w w' := by
  have h1 : (c == 0) = false := by simpa using hc
  clear hc
  go_enter Tryz.func30, Tryz.ntmps30
  go_wp2_with fail
  refine bodyPost_ret (v := .agg #[.int .i64 c, .int .i64 (-1)]) ?_ rfl ⟨rfl, (Below.refl _ _).alloc (Nat.le_refl _) _⟩
  exact results_cell_row rfl _ _ w.heap.size 30 _ (0, 0) _ rfl (heap_alloc_new w _) Tryz.underlying30 rfl faultInfoE
theorem results_tmp_rowE {P : Program} {fn : Func} {u p : Tmp} {ty : TypeId} (h : fn.results = #[.tmp u, .cell p ty]) (tmps : Array Value) (w : World) (g : Nat) (t : TypeId) (cs : Array Value) (fr : Nat × Nat) (d : TypeDesc)
    (hp : tmps.getD p undef = .pointer (some ⟨g, 0, none⟩)) (hg : w.heap[g]? = some (.cells cs t fr))
    (hu : P.underlying ty = some d) (hd : (match d with | .struct _ | .array _ _ => true | _ => false) = true) (hi : (P.info? ty).map (·.size) = some cs.size) :
    (results fn tmps).run P w = .ok (.tuple #[tmps.getD u undef, .agg cs]) w := by
  have hp' : tmps[p]?.getD undef = .pointer (some ⟨g, 0, none⟩) := by simpa using hp
  simp [results, h, hp', asAddr, run_loadVar_row w g t ty cs fr d hg hu hd hi, Result.andThen]
theorem ret_toldE {fn : Func} {u p : Tmp} (hf : fn.results = #[.tmp u, .cell p 30]) {Q : Ending → World → Prop} {a : Act} {w : World} (g : Nat) (c z : Int) (v : Value)
    (hg : w.heap[g]? = some (.cells #[.int .i64 c, .int .i64 z] 30 (0, 0))) (hd : a.defers = []) (hp : a.tmps.getD p undef = .pointer (some ⟨g, 0, none⟩)) (hv : a.tmps.getD u undef = v) (hQ : Q (.returned (.tuple #[v, .agg #[.int .i64 c, .int .i64 z]])) w) : bodyPost Tryz.prog fn Q .ret a w := by
  refine bodyPost_ret (v := .tuple #[v, .agg #[.int .i64 c, .int .i64 z]]) ?_ hd hQ
  rw [← hv]
  exact results_tmp_rowE hf _ _ g 30 _ (0, 0) _ hp hg Tryz.underlying30 rfl faultInfoE
theorem bytes_eq {s : ByteArray} {l : List UInt8} (h : s.data.toList = l) : s = ⟨l.toArray⟩ := by
  subst h
  rfl
set_option maxHeartbeats 2000000 in
set_option maxRecDepth 100000 in
theorem rBytes_any (a : List UInt8) (ha : a.length = 32) (w : World) :
    Calls Tryz.prog 31 #[.agg (Lib.byteCells a).toArray] w fun e w' => e = .returned (.string ⟨a.toArray⟩) ∧ Below w.heap.size w w' := by
  have HA := Lib.hid ha
  have HR := Lib.hid (range_new2 w a)
  have HB := Lib.hid (below_one w (.cells (Lib.byteCells a).toArray 70))
  go_enter Tryz.func31, Tryz.ntmps31
  go_upto_region 1 with fail
  generalize (w.alloc (.cells (Lib.byteCells a).toArray 70)) = w1 at *
  go_wp2_with (first | (refine wpList_hashLoad (by rfl) (.tmp 1) (by rfl) w.heap.size 0 (by rfl) a HA.out HR.out ?_) | (go_at_call 94; refine (rbytes_any a HA.out w1).mono ?_))
  first
    | rintro e w2 rfl hb2
    | rintro e w2 ⟨rfl, hb2⟩
  have HB2 := Lib.hid (HB.out.trans (hb2.mono HB.out.size))
  clear hb2
  go_wp2_with fail
  go_ret
  exact ⟨rfl, HB2.out⟩
set_option maxHeartbeats 4000000 in
set_option maxRecDepth 100000 in
theorem rencode_no (ao : Option Addr) (n cap : Nat) (w : World) (hn : n ≤ 140737488351232) (hbad : ¬ (1 ≤ n ∧ n ≤ 256)) :
    Calls Tryz.prog 10 #[.slice ao n cap] w fun e w' => e = .returned (.tuple #[.string ⟨#[]⟩, .agg #[.int .i64 2, .int .i64 (-1)]]) ∧ Below w.heap.size w w' := by
  have hO := heap_one w (.cells #[.int .i64 0, .int .i64 0] 30)
  have hB := below_one w (.cells #[.int .i64 0, .int .i64 0] 30)
  have HBAD := Lib.hid hbad
  clear hbad
  go_enter Tryz.func10, Tryz.ntmps10
  go_upto_region 1 with fail
  generalize (w.alloc (.cells #[.int .i64 0, .int .i64 0] 30)) = w1 at *
  have HO := Lib.hid hO
  have HB := Lib.hid hB
  clear hO hB
  by_cases h1 : (n : Int) < 1
  all_goals
    have h2 : (n : Int) < 1 ∨ 256 < (n : Int) := by have := HBAD.out; omega
    first
      | have h3 : 256 < (n : Int) := by omega
      | skip
    clear h2
    go_wp2_with (go_at_call 30; refine (faultPlainE 2 (by decide) _).mono ?_)
    first
      | rintro e w2 rfl hb2
      | rintro e w2 ⟨rfl, hb2⟩
    have HO2 := Lib.hid (below_heap hb2 HO.out)
    have HB2 := Lib.hid (HB.out.trans (hb2.mono HB.out.size))
    clear hb2
    have HRE := Lib.hid (setRow_heap w2 w.heap.size _ #[.int .i64 2, .int .i64 (-1)] 30 (0, 0) HO2.out)
    have HBR := Lib.hid (below_setRow HB2.out (Nat.le_refl _) #[.int .i64 2, .int .i64 (-1)])
    go_wp2_with (refine wpList_store_row (by rfl) 30 (.tmp 3) (.tmp 14) (by rfl) w.heap.size #[.int .i64 2, .int .i64 (-1)] (by rfl) (by rfl) 30 #[.int .i64 0, .int .i64 0] HO2.out faultInfoE rfl (one2E _ _) ?_)
    exact ret_toldE rfl w.heap.size 2 (-1) _ HRE.out rfl rfl rfl ⟨rfl, HBR.out⟩
set_option maxHeartbeats 4000000 in
set_option maxRecDepth 100000 in
theorem rencode_ok (n cap g o : Nat) (l : List UInt8) (w : World) (hl : l.length = 32 * n) (hr : w.rangeAt g o (Lib.byteCells l)) (hgw : g < w.heap.size) (hn1 : 1 ≤ n) (hn : n ≤ 256) :
    Calls Tryz.prog 10 #[.slice (some ⟨g, o, none⟩) n cap] w fun e w' => e = .returned (.tuple #[.string ⟨l.toArray⟩, .agg #[.int .i64 0, .int .i64 0]]) ∧ Below w.heap.size w w' := by
  have hO := heap_one w (.cells #[.int .i64 0, .int .i64 0] 30)
  have hB := below_one w (.cells #[.int .i64 0, .int .i64 0] 30)
  have n1 : ¬ (n : Int) < 1 := by omega
  have n2 : ¬ (256 : Int) < (n : Int) := by omega
  have HL := Lib.hid hl
  have HR := Lib.hid hr
  clear hl hr
  go_enter Tryz.func10, Tryz.ntmps10
  go_upto_region 1 with fail
  generalize (w.alloc (.cells #[.int .i64 0, .int .i64 0] 30)) = w1 at *
  have HO := Lib.hid hO
  have HB := Lib.hid hB
  have HW := Lib.hid (lt_of_heap hO)
  have HR1 := Lib.hid (range_below hB HR.out)
  have hg1 : g < w1.heap.size := Nat.lt_of_lt_of_le hgw hB.size
  clear hO hB
  go_wp2_with fail
  clear n1 n2
  go_loopw [4, 5] (fun vs vi wr => ∃ (i : Nat) (sb : ByteArray), i ≤ n ∧ vi = .int .i64 (i : Int) ∧ vs = .string sb ∧ sb.data.toList = l.take (32 * i) ∧ Below w1.heap.size w1 wr) (fun _ vi _ => n - (intOf vi).toNat)
  case atStart => exact ⟨0, ⟨#[]⟩, Nat.zero_le _, rfl, rfl, rfl, Below.refl _ _⟩
  case round =>
    obtain ⟨i, sb, hin, rfl, rfl, hsb, hbel⟩ := hrel
    rename World => wA
    have HBE := Lib.hid hbel
    have HSB := Lib.hid hsb
    have hgA : g < wA.heap.size := Nat.lt_of_lt_of_le hg1 hbel.size
    have hsz : sb.size ≤ 8192 := by
      have e : sb.data.toList.length = sb.size := Array.length_toList
      have := HL.out
      rw [hsb, List.length_take] at e
      omega
    clear hbel hsb
    by_cases hi : i < n
    · have i1 : (i : Int) < (n : Int) := by omega
      have i0 : (0 : Int) ≤ (i : Int) := by omega
      obtain ⟨hb, hhb⟩ : ∃ hb, hashAt l i = hb := ⟨_, rfl⟩
      have hh32 : hb.length = 32 := by rw [← hhb]; exact hashAt_len HL.out hi
      have HHL := Lib.hid hh32
      have HRA := Lib.hid (show wA.rangeAt g (o + i * 32) (Lib.byteCells hb) by rw [← hhb]; exact range_at (range_below HBE.out HR1.out) i)
      have HTK := Lib.hid (show l.take (32 * (i + 1)) = l.take (32 * i) ++ hb by rw [← hhb]; exact take_hash l i)
      have q1 : ¬ 9223372036854775807 < sb.size + hb.length := by omega
      clear hhb hh32
      go_wp2_with (first | (refine wpList_hashLoad (by rfl) (.tmp 24) (by rfl) g (o + i * 32) (by rfl) hb HHL.out HRA.out ?_) | (go_at_call 31; refine (rBytes_any hb HHL.out wA).mono ?_))
      first
        | rintro e w2 rfl hb2
        | rintro e w2 ⟨rfl, hb2⟩
      have HB2 := Lib.hid (HBE.out.trans (hb2.mono HBE.out.size))
      clear hb2
      go_wp2_with fail
      go_roundw
      case rel => exact ⟨i + 1, _, hi, by go_num, rfl, by simp [ByteArray.data_append, HSB.out, HTK.out], HB2.out⟩
      case measure => simp [intOf]; omega
    · obtain rfl : i = n := by omega
      have i1 : ¬ (i : Int) < (i : Int) := by omega
      have hfin := HSB.out
      rw [List.take_of_length_le (by rw [HL.out]; exact Nat.le_refl _)] at hfin
      obtain rfl := bytes_eq hfin
      have HOF := Lib.hid ((HBE.out.block w.heap.size HW.out).trans HO.out)
      have HRE := Lib.hid (setRow_heap wA w.heap.size _ #[.int .i64 0, .int .i64 0] 30 (0, 0) HOF.out)
      have HBR := Lib.hid (below_setRow (HB.out.trans (HBE.out.mono HB.out.size)) (Nat.le_refl _) #[.int .i64 0, .int .i64 0])
      clear hfin hsz
      go_wp2_with (refine wpList_store_row (by rfl) 30 (.tmp 3) (.tmp 29) (by rfl) w.heap.size #[.int .i64 0, .int .i64 0] (by rfl) (by rfl) 30 #[.int .i64 0, .int .i64 0] HOF.out faultInfoE rfl (one2E _ _) ?_)
      exact ret_toldE rfl w.heap.size 0 0 _ HRE.out rfl rfl rfl ⟨rfl, HBR.out⟩
end Go.Proofs.YtlahdjdbbfjadaaGreatDoor

namespace Go.Proofs.YtlahdjdbbfjadaaGreatDoor
open Go.RowKit

theorem setCells_one (w : World) (b o : Nat) (v : Value) : w.setCells b o [v] = w.setCell ⟨b, o, none⟩ v := rfl

set_option maxHeartbeats 4000000 in
set_option maxRecDepth 100000 in
theorem rdecode_width (s : ByteArray) (wd : Int) (w : World) (hbad : wd < 1 ∨ 256 < wd) :
    Calls Tryz.prog 12 #[.string s, .int .i64 wd] w fun e w' => e = .returned (.tuple #[.slice none 0 0, .agg #[.int .i64 2, .int .i64 (-1)]]) ∧ Below w.heap.size w w' := by
  have hO := heap_one w (.cells #[.int .i64 0, .int .i64 0] 30)
  have hB := below_one w (.cells #[.int .i64 0, .int .i64 0] 30)
  have HBAD := Lib.hid hbad
  clear hbad
  go_enter Tryz.func12, Tryz.ntmps12
  go_upto_region 1 with fail
  generalize (w.alloc (.cells #[.int .i64 0, .int .i64 0] 30)) = w1 at *
  have HO := Lib.hid hO
  have HB := Lib.hid hB
  clear hO hB
  by_cases h1 : wd < 1
  all_goals
    have h2 : wd < 1 ∨ 256 < wd := HBAD.out
    first
      | have h3 : 256 < wd := by omega
      | skip
    clear h2
    go_wp2_with (go_at_call 30; refine (faultPlainE 2 (by decide) _).mono ?_)
    first
      | rintro e w2 rfl hb2
      | rintro e w2 ⟨rfl, hb2⟩
    have HO2 := Lib.hid (below_heap hb2 HO.out)
    have HB2 := Lib.hid (HB.out.trans (hb2.mono HB.out.size))
    clear hb2
    have HRE := Lib.hid (setRow_heap w2 w.heap.size _ #[.int .i64 2, .int .i64 (-1)] 30 (0, 0) HO2.out)
    have HBR := Lib.hid (below_setRow HB2.out (Nat.le_refl _) #[.int .i64 2, .int .i64 (-1)])
    go_wp2_with (refine wpList_store_row (by rfl) 30 (.tmp 5) (.tmp 14) (by rfl) w.heap.size #[.int .i64 2, .int .i64 (-1)] (by rfl) (by rfl) 30 #[.int .i64 0, .int .i64 0] HO2.out faultInfoE rfl (one2E _ _) ?_)
    exact ret_toldE rfl w.heap.size 2 (-1) _ HRE.out rfl rfl rfl ⟨rfl, HBR.out⟩
set_option maxHeartbeats 4000000 in
set_option maxRecDepth 100000 in
theorem rdecode_size (s : ByteArray) (wd : Int) (w : World) (n1 : ¬ wd < 1) (n2 : ¬ 256 < wd) (n3 : (s.size : Int) ≠ 32 * wd) :
    Calls Tryz.prog 12 #[.string s, .int .i64 wd] w fun e w' => e = .returned (.tuple #[.slice none 0 0, .agg #[.int .i64 3, .int .i64 (-1)]]) ∧ Below w.heap.size w w' := by
  have hO := heap_one w (.cells #[.int .i64 0, .int .i64 0] 30)
  have hB := below_one w (.cells #[.int .i64 0, .int .i64 0] 30)
  go_enter Tryz.func12, Tryz.ntmps12
  go_upto_region 1 with fail
  generalize (w.alloc (.cells #[.int .i64 0, .int .i64 0] 30)) = w1 at *
  have HO := Lib.hid hO
  have HB := Lib.hid hB
  clear hO hB
  go_wp2_with (go_at_call 30; refine (faultPlainE 3 (by decide) _).mono ?_)
  first
    | rintro e w2 rfl hb2
    | rintro e w2 ⟨rfl, hb2⟩
  have HO2 := Lib.hid (below_heap hb2 HO.out)
  have HB2 := Lib.hid (HB.out.trans (hb2.mono HB.out.size))
  clear hb2
  have HRE := Lib.hid (setRow_heap w2 w.heap.size _ #[.int .i64 3, .int .i64 (-1)] 30 (0, 0) HO2.out)
  have HBR := Lib.hid (below_setRow HB2.out (Nat.le_refl _) #[.int .i64 3, .int .i64 (-1)])
  go_wp2_with (refine wpList_store_row (by rfl) 30 (.tmp 5) (.tmp 20) (by rfl) w.heap.size #[.int .i64 3, .int .i64 (-1)] (by rfl) (by rfl) 30 #[.int .i64 0, .int .i64 0] HO2.out faultInfoE rfl (one2E _ _) ?_)
  exact ret_toldE rfl w.heap.size 3 (-1) _ HRE.out rfl rfl rfl ⟨rfl, HBR.out⟩
set_option maxHeartbeats 4000000 in
set_option maxRecDepth 100000 in
theorem rdecode_ok (s : ByteArray) (n : Nat) (w : World) (hn1 : 1 ≤ n) (hn : n ≤ 256) (hs : s.size = 32 * n) :
    Calls Tryz.prog 12 #[.string s, .int .i64 (n : Int)] w fun e w' => (∃ g, e = .returned (.tuple #[.slice (some ⟨g, 0, none⟩) n n, .agg #[.int .i64 0, .int .i64 0]]) ∧ HashIn w' (.slice (some ⟨g, 0, none⟩) n n) n s.data.toList) ∧ Below w.heap.size w w' := by
  have hO := heap_one w (.cells #[.int .i64 0, .int .i64 0] 30)
  have hB := below_one w (.cells #[.int .i64 0, .int .i64 0] 30)
  have n1 : ¬ (n : Int) < 1 := by omega
  have n2 : ¬ (256 : Int) < (n : Int) := by omega
  have n3 : (s.size : Int) = 32 * (n : Int) := by omega
  have HLN := Lib.hid (show s.data.toList.length = 32 * n by rw [show s.data.toList.length = s.size from Array.length_toList, hs])
  have HS := Lib.hid hs
  clear hs
  go_enter Tryz.func12, Tryz.ntmps12
  go_upto_region 1 with fail
  generalize (w.alloc (.cells #[.int .i64 0, .int .i64 0] 30)) = w1 at *
  obtain ⟨cs, hcs, hmk⟩ := make_hashes n (by omega) w1
  have HTH := Lib.hid (there_row (n := 32 * n) (lo := 0) (hi := 0) (heap_one w1 (.cells cs 70)) (by omega) (.inr (Nat.le_refl _)) : (w1.alloc (.cells cs 70)).there w1.heap.size 0 (32 * n))
  have HB1 := Lib.hid (below_one w1 (.cells cs 70))
  have HLW := Lib.hid (show w1.heap.size < (w1.alloc (.cells cs 70)).heap.size by simp)
  have HO := Lib.hid hO
  have HB := Lib.hid hB
  have HW := Lib.hid (lt_of_heap hO)
  clear hcs hO hB
  go_wp2_with fail
  generalize (w1.alloc (.cells cs 70)) = w2 at *
  clear hmk n1 n2
  go_loopw [7] (fun vi wr => ∃ i : Nat, i ≤ 32 * n ∧ vi = .int .i64 (i : Int) ∧ wr.rangeAt w1.heap.size 0 (Lib.byteCells (s.data.toList.take i)) ∧ wr.there w1.heap.size 0 (32 * n) ∧ Below w1.heap.size w1 wr ∧ w1.heap.size < wr.heap.size) (fun vi _ => 32 * n - (intOf vi).toNat)
  case atStart => exact ⟨0, Nat.zero_le _, rfl, fun j v hv => by simp [Lib.byteCells] at hv, HTH.out, HB1.out, HLW.out⟩
  case round =>
    obtain ⟨i, hin, rfl, hrg, hth, hbel, hlw⟩ := hrel
    rename World => wA
    have HRG := Lib.hid hrg
    have HTA := Lib.hid hth
    have HBE := Lib.hid hbel
    have HLA := Lib.hid hlw
    clear hrg hth hbel hlw HTH HB1 HLW
    by_cases hi : i < 32 * n
    · have i1 : (i : Int) < (s.size : Int) := by omega
      have i0 : (0 : Int) ≤ (i : Int) := by omega
      obtain ⟨q, r, hq, hr, rfl⟩ : ∃ q r : Nat, q < n ∧ r < 32 ∧ i = q * 32 + r := ⟨i / 32, i % 32, by omega, by omega, by omega⟩
      obtain ⟨c, hc⟩ : ∃ c, s.data.toList[q * 32 + r]? = some c := ⟨_, List.getElem?_eq_getElem (by have := HLN.out; omega)⟩
      obtain ⟨i, hi⟩ : ∃ i, q * 32 + r = i := ⟨_, rfl⟩
      have hck := HTA.out (q * 32 + r) (by omega)
      rw [Nat.zero_add] at hck
      obtain ⟨⟨v, ck⟩, fk⟩ : (∃ v, wA.cell? ⟨w1.heap.size, q * 32 + r, none⟩ = some v) ∧ wA.frozen? ⟨w1.heap.size, q * 32 + r, none⟩ = false := ⟨Option.isSome_iff_exists.1 hck.1, hck.2⟩
      have HI := Lib.hid hi
      rw [hi] at hc i0 i1
      rw [hi]
      have xk := fun w => run_idx (P := Tryz.prog) Tryz.underlying9 s i c hc (i : Int) rfl .i64 w
      have c256 := UInt8.toNat_lt c
      have e1 : (i : Int) / 32 = (q : Int) := by omega
      have e1' : (i : Int).tdiv 32 = (q : Int) := by rw [Int.tdiv_eq_ediv_of_nonneg (by omega)]; omega
      have e2 : (i : Int) % 32 = (r : Int) := by omega
      have e2' : (i : Int).tmod 32 = (r : Int) := by rw [Int.tmod_eq_emod_of_nonneg (by omega)]; omega
      have q0 : (0 : Int) ≤ (q : Int) := by omega
      have ew : IntKind.i64.wrap (q : Int) = (q : Int) := by rw [IntKind.wrap_i64]; omega
      have q1 : (q : Int) < (n : Int) := by omega
      have r0 : (0 : Int) ≤ (r : Int) := by omega
      have r1 : (r : Int) < 32 := by omega
      have lk := HLA.out
      have HTK := Lib.hid (show s.data.toList.take (i + 1) = s.data.toList.take i ++ [c] by rw [List.take_add_one, hc]; rfl)
      have hin' : i + 1 ≤ 32 * n := by omega
      have HIN := Lib.hid hin'
      clear hc hck hi hin'
      go_wp2_with fail
      go_still_tail 10, (by kernel_rfl)
      go_wp2_with fail
      go_roundw
      case rel =>
        obtain rfl := HI.out
        have hE := setCells_one wA w1.heap.size (q * 32 + r) (.int .u8 (c.toNat : Int))
        have hbs : Below w1.heap.size w1 (wA.setCells w1.heap.size (q * 32 + r) [(.int .u8 (c.toNat : Int) : Value)]) := below_setCells (Nat.le_refl _) _ _ _ HBE.out
        have hts : (wA.setCells w1.heap.size (q * 32 + r) [(.int .u8 (c.toNat : Int) : Value)]).there w1.heap.size 0 (32 * n) := World.there_setCells HTA.out _ _ _
        have hsz := (Below.setCell (Below.refl 0 wA) (p := ⟨w1.heap.size, q * 32 + r, none⟩) (Nat.zero_le _) (.int .u8 (c.toNat : Int))).size
        rw [hE] at hbs hts
        refine ⟨q * 32 + r + 1, HIN.out, by go_num, ?_, ?_, ?_, ?_⟩
        · have hlen : (Lib.byteCells (s.data.toList.take (q * 32 + r))).length = q * 32 + r := by
            rw [Lib.byteCells_length, List.length_take, HLN.out]
            have := HIN.out
            omega
          have h1 := World.rangeAt_setCells_apart HRG.out w1.heap.size (q * 32 + r) [(.int .u8 (c.toNat : Int) : Value)] (.inr (.inl (by rw [hlen]; omega)))
          have h2 : (wA.setCells w1.heap.size (q * 32 + r) [(.int .u8 (c.toNat : Int) : Value)]).rangeAt w1.heap.size (0 + (Lib.byteCells (s.data.toList.take (q * 32 + r))).length) (Lib.byteCells [c]) := by
            rw [hlen, Nat.zero_add]
            refine World.rangeAt_setCells_same _ _ _ _ (fun j hj => ?_)
            have := HTA.out (q * 32 + r + j) (by have := HIN.out; simp at hj; omega)
            rwa [Nat.zero_add] at this
          have h3 := range_app h1 h2
          rw [byteCells_app, ← HTK.out] at h3
          rw [hE] at h3
          exact h3
        · first
            | exact hts
            | exact (World.there_drew _ _ _ _).2 hts
        · exact hbs.drew
        · exact Nat.lt_of_lt_of_le HLA.out hsz
      case measure => simp [intOf]; have := HIN.out; omega
    · obtain rfl : i = 32 * n := by omega
      have i1 : ¬ ((32 * n : Nat) : Int) < (s.size : Int) := by omega
      have hfull := HRG.out
      rw [List.take_of_length_le (by rw [HLN.out]; exact Nat.le_refl _)] at hfull
      have HFU := Lib.hid hfull
      have hw : w.heap.size ≠ w1.heap.size := by have := HW.out; omega
      have HOF := Lib.hid ((HBE.out.block w.heap.size HW.out).trans HO.out)
      have HRE := Lib.hid (setRow_heap wA w.heap.size _ #[.int .i64 0, .int .i64 0] 30 (0, 0) HOF.out)
      have HBR := Lib.hid (below_setRow (HB.out.trans (HBE.out.mono HB.out.size)) (Nat.le_refl _) #[.int .i64 0, .int .i64 0])
      clear hfull
      go_wp2_with (refine wpList_store_row (by rfl) 30 (.tmp 5) (.tmp 40) (by rfl) w.heap.size #[.int .i64 0, .int .i64 0] (by rfl) (by rfl) 30 #[.int .i64 0, .int .i64 0] HOF.out faultInfoE rfl (one2E _ _) ?_)
      refine ret_toldE rfl w.heap.size 0 0 _ HRE.out rfl rfl rfl ⟨⟨w1.heap.size, rfl, HLN.out, _, _, rfl, fun _ => ⟨w1.heap.size, 0, rfl, ?_⟩⟩, HBR.out⟩
      exact range_heap HFU.out (setRow_other wA w.heap.size w1.heap.size _ (Ne.symm hw))
end Go.Proofs.YtlahdjdbbfjadaaGreatDoor

namespace Go.Proofs.YtlahdjdbbfjadaaGreatDoor
open Go.RowKit

theorem owns_belowY {w w' : World} {B : Nat} {e : TypeId} {size : Nat} {v : Value} {n : Nat} {xs : List Value} (h : w.ownsRow B e size v n xs) (hb : Below w.heap.size w w') : w'.ownsRow B e size v n xs := by
  refine ⟨h.1, ?_⟩
  rcases h.2 with h' | ⟨g, cap, cur, rfl, hg, hh, hr⟩
  · exact .inl h'
  · exact .inr ⟨g, cap, cur, rfl, hg, below_heap hb hh, hr⟩
theorem owns_weakY {B B' : Nat} {w : World} {e : TypeId} {size : Nat} {v : Value} {n : Nat} {xs : List Value} (h : w.ownsRow B e size v n xs) (hB : B' ≤ B) : w.ownsRow B' e size v n xs := by
  refine ⟨h.1, ?_⟩
  rcases h.2 with h' | ⟨g, cap, cur, rfl, hg, hr⟩
  · exact .inl h'
  · exact .inr ⟨g, cap, cur, rfl, Nat.le_trans hB hg, hr⟩
theorem book_litY : (#[.int .i64 0, .slice none 0 0, .slice none 0 0, .slice none 0 0, .slice none 0 0, .slice none 0 0, .slice none 0 0, .slice none 0 0, .slice none 0 0, .slice none 0 0, .slice none 0 0, .slice none 0 0, .slice none 0 0, .slice none 0 0, .slice none 0 0, .slice none 0 0, .slice none 0 0] : Array Value) = bookRowHa := rfl
theorem ret_boolY {a b : Bool} (h : a = b) : Ending.returned (.bool a) = Ending.returned (.bool b) := by rw [h]
set_option maxHeartbeats 4000000 in
set_option maxRecDepth 100000 in
theorem beyond_twoY (w : World) (g a b : Nat) (h0 : w.cell? ⟨g, 0, none⟩ = some (.int .i64 (a : Int))) (h1 : w.cell? ⟨g, 1, none⟩ = some (.int .i64 (b : Int))) (ha : a ≤ 281474976710656) (hb : b ≤ 281474976710656) :
    Calls Tryz.prog 7 #[.slice (some ⟨g, 0, none⟩) 2 2] w fun e w' => e = .returned (.bool (decide (1048576 < a + b))) ∧ Below w.heap.size w w' := by
  go_enter Tryz.func7, Tryz.ntmps7
  go_wp2_with fail
  by_cases h2 : 1048576 < a
  · have hi : (1048576 : Int) < (a : Int) := by omega
    refine wp_loop_rounds 1 ?_
    rw [rounds_succ]
    go_wp2_with fail
    go_ret
    exact ⟨ret_boolY (by rw [decide_eq_true (by omega)]), below_drewN (Below.refl _ _) 0⟩
  · have hi : ¬ (1048576 : Int) < (a : Int) := by omega
    by_cases h3 : 1048576 < a + b
    · have hi2 : (1048576 : Int) < (a : Int) + (b : Int) := by omega
      refine wp_loop_rounds 2 ?_
      rw [rounds_succ]
      go_wp2_with fail
      rw [rounds_succ]
      go_wp2_with fail
      go_ret
      exact ⟨ret_boolY (by rw [decide_eq_true h3]), below_drewN (Below.refl _ _) 0⟩
    · have hi2 : ¬ (1048576 : Int) < (a : Int) + (b : Int) := by omega
      refine wp_loop_rounds 3 ?_
      rw [rounds_succ]
      go_wp2_with fail
      rw [rounds_succ]
      go_wp2_with fail
      rw [rounds_succ]
      go_wp2_with fail
      go_ret
      exact ⟨ret_boolY (by rw [decide_eq_false h3]), below_drewN (Below.refl _ _) 0⟩
set_option maxHeartbeats 4000000 in
set_option maxRecDepth 100000 in
theorem bytes_beyond (v : Value) (n : Nat) (l : List UInt8) (s : ByteArray) (wd : Int) (w : World) (hH : HashIn w v n l) (hn : n ≤ 140737488351232) (hs : s.size ≤ 140737488351232) (hN : 1048576 < n + s.size) :
    Calls Tryz.prog 3 #[v, .string s, .int .i64 wd] w fun e w' => e = .returned (.bool true) ∧ Below w.heap.size w w' := by
  obtain ⟨_, ao, cap, rfl, _⟩ := hH
  have HBY := Lib.hid (beyond_twoY (w.alloc (.cells #[.int .i64 (n : Int), .int .i64 (s.size : Int)] 3)) w.heap.size n s.size (cell_of (heap_one w _) 0 rfl) (cell_of (heap_one w _) 1 rfl) (by omega) (by omega))
  rw [decide_eq_true hN] at HBY
  go_enter Tryz.func3, Tryz.ntmps3
  go_wp2_with (go_at_call 7; refine HBY.out.mono ?_)
  first
    | rintro e w1 rfl hb1
    | rintro e w1 ⟨rfl, hb1⟩
  have HB1 := Lib.hid ((below_one w (.cells #[.int .i64 (n : Int), .int .i64 (s.size : Int)] 3)).trans (hb1.mono (by simp)))
  clear hb1
  go_wp2_with fail
  go_ret
  exact ⟨rfl, HB1.out⟩
set_option maxHeartbeats 8000000 in
set_option maxRecDepth 100000 in
theorem bytes_walk (S : Nat → Addr) (v : Value) (n : Nat) (l : List UInt8) (s : ByteArray) (wd : Int) (p : ByteArray) (ev : Value) (ec : Nat) (c z : Int) (m : Nat) (x : List UInt8) (ev2 : Value) (ec2 : Nat) (c2 z2 : Int) (w : World) (hB : Base S w) (hT : Tab w) (hH : HashIn w v n l) (hn : n + s.size ≤ 1048576) (hm : m ≤ 1048576) (hx : x.length = 32 * m)
    (hE : ∀ W, Base S W → ErrAt S W ev ec none) (hsame : sameB ec none c z = true) (hE2 : ∀ W, Base S W → ErrAt S W ev2 ec2 none) (hsame2 : sameB ec2 none c2 z2 = true)
    (h1 : ∀ g W, Below w.heap.size w W → g < W.heap.size → W.rangeAt g 0 (Lib.byteCells (l ++ twinMark)) → Calls Tryz.prog 9 #[.slice (some ⟨g, 0, none⟩) n (n + 1)] W fun e w' => e = .returned (.tuple #[.string p, ev]) ∧ Below W.heap.size W w')
    (h2 : ∀ W, Below w.heap.size w W → Calls Tryz.prog 10 #[v] W fun e w' => e = .returned (.tuple #[.string p, .agg #[.int .i64 c, .int .i64 z]]) ∧ Below W.heap.size W w')
    (h3 : ∀ W, Below w.heap.size w W → Calls Tryz.prog 11 #[.string s, .int .i64 wd] W fun e w' => ∃ vl, e = .returned (.tuple #[vl, ev2]) ∧ w'.ownsRow W.heap.size 70 32 vl m (Lib.byteCells x) ∧ Below W.heap.size W w')
    (h4 : ∀ W, Calls Tryz.prog 12 #[.string s, .int .i64 wd] W fun e w' => ∃ vl, e = .returned (.tuple #[vl, .agg #[.int .i64 c2, .int .i64 z2]]) ∧ HashIn w' vl m x ∧ Below W.heap.size W w') :
    Calls Tryz.prog 3 #[v, .string s, .int .i64 wd] w fun e w' => e = .returned (.bool true) ∧ Below w.heap.size w w' := by
  have HB := Lib.hid hB
  have HT := Lib.hid hT
  have HE := Lib.hid hE
  have HSM := Lib.hid hsame
  have HE2 := Lib.hid hE2
  have HSM2 := Lib.hid hsame2
  have H1 := Lib.hid h1
  have H2 := Lib.hid h2
  have H3 := Lib.hid h3
  have H4 := Lib.hid h4
  have HX := Lib.hid hx
  have HMM := Lib.hid hm
  have HH := Lib.hid hH
  have HNS := Lib.hid hn
  obtain ⟨_, ao, cap, rfl, _⟩ := hH
  have HBY := Lib.hid (beyond_twoY (w.alloc (.cells #[.int .i64 (n : Int), .int .i64 (s.size : Int)] 3)) w.heap.size n s.size (cell_of (heap_one w _) 0 rfl) (cell_of (heap_one w _) 1 rfl) (by omega) (by omega))
  rw [decide_eq_false (by omega)] at HBY
  clear hB hT hE hsame hE2 hsame2 h1 h2 h3 h4 hm hx hn
  go_enter Tryz.func3, Tryz.ntmps3
  go_wp2_with (go_at_call 7; refine HBY.out.mono ?_)
  first
    | rintro e w1 rfl hb1
    | rintro e w1 ⟨rfl, hb1⟩
  have B1 := Lib.hid ((below_one w (.cells #[.int .i64 (n : Int), .int .i64 (s.size : Int)] 3)).trans (hb1.mono (by simp)))
  clear hb1 HBY
  have HTW := Lib.hid (twinHashes_any _ n l w1 (HH.out.below B1.out) (by have := HNS.out; omega))
  go_wp2_with (go_at_call 8; refine HTW.out.mono ?_)
  first
    | rintro e w2 g rfl hg hr hb2
    | rintro e w2 ⟨g, rfl, hg, hr⟩ hb2
    | rintro e w2 ⟨⟨g, rfl, hg, hr⟩, hb2⟩
  have B2 := Lib.hid (B1.out.trans (hb2.mono B1.out.size))
  have HR2 := Lib.hid hr
  have HG2 := Lib.hid hg
  clear hb2 hr hg HTW
  go_wp2_with (go_at_call 9; refine (H1.out g w2 B2.out HG2.out HR2.out).mono ?_)
  first
    | rintro e w3 rfl hb3
    | rintro e w3 ⟨rfl, hb3⟩
  have B3 := Lib.hid (B2.out.trans (hb3.mono B2.out.size))
  have HR3 := Lib.hid (range_below hb3 HR2.out)
  have HG3 := Lib.hid (Nat.lt_of_lt_of_le HG2.out hb3.size)
  clear hb3
  go_wp2_with (go_at_call 10; refine (H2.out w3 B3.out).mono ?_)
  first
    | rintro e w4 rfl hb4
    | rintro e w4 ⟨rfl, hb4⟩
  have b45 := below_one w4 (.cells #[.int .i64 c, .int .i64 z] 30)
  have HR5 := Lib.hid (range_below b45 (range_below hb4 HR3.out))
  have HG5 := Lib.hid (Nat.lt_of_lt_of_le HG3.out (Nat.le_trans hb4.size b45.size))
  have HF5 := Lib.hid (heap_one w4 (.cells #[.int .i64 c, .int .i64 z] 30))
  have B5 := Lib.hid ((B3.out.trans (hb4.mono B3.out.size)).trans (b45.mono (Nat.le_trans B3.out.size hb4.size)))
  clear hb4 b45
  go_upto_region 6 with fail
  generalize (w4.alloc (.cells #[.int .i64 c, .int .i64 z] 30)) = w5 at *
  generalize w4.heap.size = f1 at *
  go_wp2_with (go_at_call 11; refine (H3.out w5 B5.out).mono ?_)
  first
    | rintro e w6 va rfl ho hb6
    | rintro e w6 ⟨va, rfl, ho, hb6⟩
  obtain ⟨aa, ca, rfl⟩ := owns_anyH ho
  have OA6 := Lib.hid ho
  have HR6 := Lib.hid (range_below hb6 HR5.out)
  have HG6 := Lib.hid (Nat.lt_of_lt_of_le HG5.out hb6.size)
  have HF6 := Lib.hid (below_heap hb6 HF5.out)
  have B6 := Lib.hid (B5.out.trans (hb6.mono B5.out.size))
  clear ho hb6
  go_wp2_with (go_at_call 11; refine (H3.out w6 B6.out).mono ?_)
  first
    | rintro e w7 vb rfl ho hb7
    | rintro e w7 ⟨vb, rfl, ho, hb7⟩
  obtain ⟨ab, cb, rfl⟩ := owns_anyH ho
  have OB7 := Lib.hid ho
  have OA7 := Lib.hid (owns_belowY OA6.out hb7)
  have HGA := Lib.hid fun g hg => (OA6.out.lt g hg).2
  have HGB := Lib.hid fun g hg => (OB7.out.lt g hg).1
  have HR7 := Lib.hid (range_below hb7 HR6.out)
  have HG7 := Lib.hid (Nat.lt_of_lt_of_le HG6.out hb7.size)
  have HF7 := Lib.hid (below_heap hb7 HF6.out)
  have B7 := Lib.hid (B6.out.trans (hb7.mono B6.out.size))
  clear ho hb7
  go_wp2_with (go_at_call 12; refine (H4.out w7).mono ?_)
  first
    | rintro e w8 vc rfl ho hb8
    | rintro e w8 ⟨vc, rfl, ho, hb8⟩
  obtain ⟨ac, nc, cc, rfl⟩ : ∃ ac nc cc, vc = .slice ac nc cc := by
    obtain ⟨_, ac, cc, rfl, _⟩ := ho
    exact ⟨_, _, _, rfl⟩
  have b89 := below_one w8 (.cells #[.int .i64 c2, .int .i64 z2] 30)
  have OA9 := Lib.hid (owns_belowY (owns_belowY OA7.out hb8) b89)
  have OB9 := Lib.hid (owns_belowY (owns_belowY OB7.out hb8) b89)
  have OC9 := Lib.hid (ho.below b89)
  have HR9 := Lib.hid (range_below b89 (range_below hb8 HR7.out))
  have HG9 := Lib.hid (Nat.lt_of_lt_of_le HG7.out (Nat.le_trans hb8.size b89.size))
  have HF9 := Lib.hid (below_heap b89 (below_heap hb8 HF7.out))
  have HK9 := Lib.hid (heap_one w8 (.cells #[.int .i64 c2, .int .i64 z2] 30))
  have B9 := Lib.hid ((B7.out.trans (hb8.mono B7.out.size)).trans (b89.mono (Nat.le_trans B7.out.size hb8.size)))
  clear ho hb8 b89
  go_upto_region 9 with fail
  generalize (w8.alloc (.cells #[.int .i64 c2, .int .i64 z2] 30)) = w9 at *
  generalize w8.heap.size = f2 at *
  have hf9 := HF9.out
  have f0 := cell_of hf9 0 (v := .int .i64 c) rfl
  have f1' := cell_of hf9 1 (v := .int .i64 z) rfl
  have lf := lt_of_heap hf9
  have HSA := Lib.hid (same_any S w9 ev ec none c z (HB.out.below B9.out) (HE.out _ (HB.out.below B9.out)))
  rw [HSM.out] at HSA
  clear hf9
  go_wp2_with (go_at_call 13; refine HSA.out.mono ?_)
  first
    | rintro e wa rfl hba
    | rintro e wa ⟨rfl, hba⟩
  have OAa := Lib.hid (owns_belowY OA9.out hba)
  have OBa := Lib.hid (owns_belowY OB9.out hba)
  have OCa := Lib.hid (OC9.out.below hba)
  have HRa := Lib.hid (range_below hba HR9.out)
  have HGa := Lib.hid (Nat.lt_of_lt_of_le HG9.out hba.size)
  have HKa := Lib.hid (below_heap hba HK9.out)
  have Ba := Lib.hid (B9.out.trans (hba.mono B9.out.size))
  clear hba f0 f1' lf HSA
  have HS1 := Lib.hid (sameHashes_any _ _ m x wa (by have := HMM.out; omega) (owns_hash HX.out OAa.out) OCa.out)
  go_wp2_with (go_at_call 14; refine HS1.out.mono ?_)
  first
    | rintro e wb rfl hbb
    | rintro e wb ⟨rfl, hbb⟩
  have OAb := Lib.hid (owns_belowY OAa.out hbb)
  have OBb := Lib.hid (owns_belowY OBa.out hbb)
  have OCb := Lib.hid (OCa.out.below hbb)
  have HRb := Lib.hid (range_below hbb HRa.out)
  have HGb := Lib.hid (Nat.lt_of_lt_of_le HGa.out hbb.size)
  have HKb := Lib.hid (below_heap hbb HKa.out)
  have Bb := Lib.hid (Ba.out.trans (hbb.mono Ba.out.size))
  clear hbb HS1
  have HS2 := Lib.hid (sameHashes_any _ _ m x wb (by have := HMM.out; omega) (owns_hash HX.out OBb.out) OCb.out)
  go_wp2_with (go_at_call 14; refine HS2.out.mono ?_)
  first
    | rintro e wc rfl hbc
    | rintro e wc ⟨rfl, hbc⟩
  have OAc := Lib.hid (owns_belowY OAb.out hbc)
  have OBc := Lib.hid (owns_belowY OBb.out hbc)
  have HRc := Lib.hid (range_below hbc HRb.out)
  have HGc := Lib.hid (Nat.lt_of_lt_of_le HGb.out hbc.size)
  have hkc := below_heap hbc HKb.out
  have Bc := Lib.hid (Bb.out.trans (hbc.mono Bb.out.size))
  have f0 := cell_of hkc 0 (v := .int .i64 c2) rfl
  have f1' := cell_of hkc 1 (v := .int .i64 z2) rfl
  have lf := lt_of_heap hkc
  have HSA := Lib.hid (same_any S wc ev2 ec2 none c2 z2 (HB.out.below Bc.out) (HE2.out _ (HB.out.below Bc.out)))
  rw [HSM2.out] at HSA
  clear hbc hkc HS2
  go_wp2_with (go_at_call 13; refine HSA.out.mono ?_)
  first
    | rintro e wd1 rfl hbd
    | rintro e wd1 ⟨rfl, hbd⟩
  have OAd := Lib.hid (owns_belowY OAc.out hbd)
  have OBd := Lib.hid (owns_belowY OBc.out hbd)
  have HRd := Lib.hid (range_below hbd HRc.out)
  have HGd := Lib.hid (Nat.lt_of_lt_of_le HGc.out hbd.size)
  have Bd := Lib.hid (Bc.out.trans (hbd.mono Bc.out.size))
  clear hbd f0 f1' lf HSA
  have HLH := Lib.hid (leftHashes_any _ n g l wd1 (HH.out.below Bd.out) (by have := HNS.out; omega) HGd.out HRd.out)
  go_wp2_with (go_at_call 15; refine HLH.out.mono ?_)
  first
    | rintro e w7' rfl hbe
    | rintro e w7' ⟨rfl, hbe⟩
  have OAe := Lib.hid (owns_belowY OAd.out hbe)
  have OBe := Lib.hid (owns_belowY OBd.out hbe)
  have Be := Lib.hid (Bd.out.trans (hbe.mono Bd.out.size))
  clear hbe HLH
  have hbk := book_litY
  have HK0 := Lib.hid (keep_startHa w7' w7' (V2Ha (.slice aa m ca) (.slice ab m cb)) (Below.refl _ _))
  have HKB := Lib.hid fun g hg => (OBe.out.lt g hg).2
  have HKA := Lib.hid fun g hg => (OAe.out.lt g hg).2
  go_upto_region 12 with fail
  generalize hw8 : (w7'.alloc (.cells bookRowHa 56)) = w8' at *
  clear hbk
  generalize hkb : w7'.heap.size = kb at *
  have HQ1 := Lib.hid (show Calls Tryz.prog 16 #[.pointer (some ⟨kb, 0, none⟩), .slice aa m ca] w8' fun e w' => e = .returned (.tuple #[]) ∧ ∃ tv', KeepSHa w7' w' kb 1 tv' (V2Ha (.slice aa m ca) (.slice ab m cb)) from keepAll_anyHa w7' w8' kb 0 _ (V2Ha (.slice aa m ca) (.slice ab m cb)) HK0.out ⟨_, _, _, rfl⟩ (by decide))
  clear HK0 hw8
  go_wp2_with (go_at_call 16; refine HQ1.out.mono ?_)
  first
    | rintro e w9' rfl tv1 hk1
    | rintro e w9' ⟨rfl, tv1, hk1⟩
  have HQ2 := Lib.hid (show Calls Tryz.prog 16 #[.pointer (some ⟨kb, 0, none⟩), .slice ab m cb] w9' fun e w' => e = .returned (.tuple #[]) ∧ ∃ tv', KeepSHa w7' w' kb 2 tv' (V2Ha (.slice aa m ca) (.slice ab m cb)) from keepAll_anyHa w7' w9' kb 1 tv1 (V2Ha (.slice aa m ca) (.slice ab m cb)) hk1 ⟨_, _, _, rfl⟩ (by decide))
  clear hk1 HQ1
  go_wp2_with (go_at_call 16; refine HQ2.out.mono ?_)
  first
    | rintro e w10 rfl tv2 hk2
    | rintro e w10 ⟨rfl, tv2, hk2⟩
  have HAP := Lib.hid (apart2_anyHa w w10 kb tv2 (.slice aa m ca) (.slice ab m cb) m m (Lib.byteCells x) (Lib.byteCells x) (hk2.weaken Be.out) (owns_weakY (owns_belowY OAe.out hk2.bel) B5.out.size) (owns_weakY (owns_belowY OBe.out hk2.bel) B6.out.size)
    (fun g hg => ⟨HKA.out g hg, fun he => by have h1 := HGA.out g hg; have h2 := HGB.out g he; omega⟩) (fun g hg => ⟨HKB.out g hg, fun he => by have h1 := HGA.out g he; have h2 := HGB.out g hg; omega⟩) HMM.out HMM.out)
  clear hk2 HQ2
  go_wp2_with (go_at_call 17; refine HAP.out.mono ?_)
  first
    | rintro e w11 rfl hb11
    | rintro e w11 ⟨rfl, hb11⟩
  have B11 := Lib.hid hb11
  have HLV := Lib.hid (livesT_any S w11 (HB.out.below B11.out) (tab_below HT.out B11.out))
  clear hb11
  go_wp2_with (go_at_call 18; refine HLV.out.mono ?_)
  first
    | rintro e w12 rfl hb12
    | rintro e w12 ⟨rfl, hb12⟩
  have B12 := Lib.hid (B11.out.trans (hb12.mono B11.out.size))
  clear hb12
  go_wp2_with fail
  go_ret
  exact ⟨rfl, B12.out⟩
end Go.Proofs.YtlahdjdbbfjadaaGreatDoor

namespace Go.Proofs.YtlahdjdbbfjadaaGreatDoor
open Go.RowKit

theorem bytes_any : TileBytesFrame.Walk := by
  intro S v n l s wd w hH hRo hn hs hwd hB hT
  by_cases hN : 1048576 < n + s.size
  · exact bytes_beyond v n l s wd w hH hn hs hN
  · have enc : ∃ (p : ByteArray) (ev : Value) (ec : Nat) (c z : Int), (∀ W, Base S W → ErrAt S W ev ec none) ∧ sameB ec none c z = true ∧
        (∀ g W, Below w.heap.size w W → g < W.heap.size → W.rangeAt g 0 (Lib.byteCells (l ++ twinMark)) → Calls Tryz.prog 9 #[.slice (some ⟨g, 0, none⟩) n (n + 1)] W fun e w' => e = .returned (.tuple #[.string p, ev]) ∧ Below W.heap.size W w') ∧
        (∀ W, Below w.heap.size w W → Calls Tryz.prog 10 #[v] W fun e w' => e = .returned (.tuple #[.string p, .agg #[.int .i64 c, .int .i64 z]]) ∧ Below W.heap.size W w') := by
      have hl := hH.1
      have tw : ∀ g W, W.rangeAt g 0 (Lib.byteCells (l ++ twinMark)) → HashIn W (.slice (some ⟨g, 0, none⟩) n (n + 1)) n l := fun g W hr => ⟨hl, _, _, rfl, fun _ => ⟨g, 0, rfl, by
        have h := range_part hr 0 (32 * n)
        rw [List.drop_zero, List.take_left' (by omega)] at h
        exact h⟩⟩
      obtain ⟨_, ao, cap, rfl, hr⟩ := hH
      by_cases hin : 1 ≤ n ∧ n ≤ 256
      · obtain ⟨g0, o, rfl, hr2⟩ := hr (by omega)
        have hgw : g0 < w.heap.size := by
          obtain ⟨b, hb⟩ : ∃ b, l[0]? = some b := ⟨_, List.getElem?_eq_getElem (by omega)⟩
          exact lt_of_cell (hr2 0 _ (by unfold Lib.byteCells; rw [List.getElem?_map, hb]; rfl))
        refine ⟨⟨l.toArray⟩, .nilIface, 0, 0, 0, fun W hW => .inl ⟨rfl, rfl, rfl⟩, by decide, fun g W hb hg hrg => ?_, fun W hb => ?_⟩
        · have h := encode_any S _ n l W (hB.below hb) (tw g W hrg)
          rw [encV, if_pos hin] at h
          exact h
        · exact rencode_ok n cap g0 o l W hl (range_below hb hr2) (Nat.lt_of_lt_of_le hgw hb.size) hin.1 hin.2
      · refine ⟨⟨#[]⟩, errV S 2, 2, 2, -1, fun W hW => .inr (.inl ⟨by omega, by omega, rfl, rfl⟩), by decide, fun g W hb hg hrg => ?_, fun W hb => ?_⟩
        · have h := encode_any S _ n l W (hB.below hb) (tw g W hrg)
          rw [encV, if_neg hin] at h
          exact h
        · exact rencode_no ao n cap W hn hin
    have dec : ∃ (m : Nat) (x : List UInt8) (ev : Value) (ec : Nat) (c z : Int), m ≤ 1048576 ∧ x.length = 32 * m ∧ (∀ W, Base S W → ErrAt S W ev ec none) ∧ sameB ec none c z = true ∧
        (∀ W, Below w.heap.size w W → Calls Tryz.prog 11 #[.string s, .int .i64 wd] W fun e w' => ∃ vl, e = .returned (.tuple #[vl, ev]) ∧ w'.ownsRow W.heap.size 70 32 vl m (Lib.byteCells x) ∧ Below W.heap.size W w') ∧
        (∀ W, Calls Tryz.prog 12 #[.string s, .int .i64 wd] W fun e w' => ∃ vl, e = .returned (.tuple #[vl, .agg #[.int .i64 c, .int .i64 z]]) ∧ HashIn w' vl m x ∧ Below W.heap.size W w') := by
      have nil_in : ∀ W : World, HashIn W (.slice none 0 0) 0 [] := fun W => ⟨rfl, _, _, rfl, fun h => by omega⟩
      by_cases hbad : wd < 1 ∨ 256 < wd
      · refine ⟨0, [], errV S 2, 2, 2, -1, by omega, rfl, fun W hW => .inr (.inl ⟨by omega, by omega, rfl, rfl⟩), by decide, fun W hb => ?_, fun W => ?_⟩
        · exact (decode_width S s wd W (hB.below hb) hbad).mono fun e w' ⟨h1, h2⟩ => ⟨_, h1, World.ownsRow_nil _ _ _ _, h2⟩
        · exact (rdecode_width s wd W hbad).mono fun e w' ⟨h1, h2⟩ => ⟨_, h1, nil_in _, h2⟩
      · by_cases hsz : (s.size : Int) = 32 * wd
        · obtain ⟨m, rfl⟩ := Int.eq_ofNat_of_zero_le (show 0 ≤ wd by omega)
          have hm1 : 1 ≤ m := by omega
          have hm2 : m ≤ 256 := by omega
          have hsm : s.size = 32 * m := by omega
          refine ⟨m, s.data.toList, .nilIface, 0, 0, 0, by omega, by rw [show s.data.toList.length = s.size from Array.length_toList, hsm], fun W hW => .inl ⟨rfl, rfl, rfl⟩, by decide, fun W hb => ?_, fun W => ?_⟩
          · exact decode_any s m W hm1 hm2 hsm
          · exact (rdecode_ok s m W hm1 hm2 hsm).mono fun e w' ⟨⟨g, h1, h2⟩, h3⟩ => ⟨_, h1, h2, h3⟩
        · refine ⟨0, [], errV S 3, 3, 3, -1, by omega, rfl, fun W hW => .inr (.inl ⟨by omega, by omega, rfl, rfl⟩), by decide, fun W hb => ?_, fun W => ?_⟩
          · exact (decode_size S s wd W (hB.below hb) (by omega) (by omega) hsz).mono fun e w' ⟨h1, h2⟩ => ⟨_, h1, World.ownsRow_nil _ _ _ _, h2⟩
          · exact (rdecode_size s wd W (by omega) (by omega) hsz).mono fun e w' ⟨h1, h2⟩ => ⟨_, h1, nil_in _, h2⟩
    obtain ⟨p, ev, ec, c, z, hE, hsame, h1, h2⟩ := enc
    obtain ⟨m, x, ev2, ec2, c2, z2, hm, hx, hE2, hsame2, h3, h4⟩ := dec
    exact bytes_walk S v n l s wd p ev ec c z m x ev2 ec2 c2 z2 w hB hT hH (by omega) hm hx hE hsame hE2 hsame2 h1 h2 h3 h4
/-- The claim. -/
theorem tileBytes_card : Rows.TileBytesCardSaid := TileBytesFrame.card bytes_any
end Go.Proofs.YtlahdjdbbfjadaaGreatDoor
