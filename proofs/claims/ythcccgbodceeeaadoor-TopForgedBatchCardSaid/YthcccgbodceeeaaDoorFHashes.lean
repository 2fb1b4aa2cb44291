/-
  naive.hashes of the one stretch [1, 2): one hash.
-/
import Derived.Test.YthcccgbodceeeaaDoorFPath
import Derived.Test.YthcccgbodceeeaaDoorFForge
namespace Go.Proofs.YthcccgbodceeeaaDoor
open Go.RowKit

set_option maxRecDepth 100000 in
theorem nil_iface (a : Addr) (w : World) : (binOp .eql 35 .nilIface (.iface 125 (.pointer (some a)))).run Tryd.prog w = .ok (.bool false) w := by
  first
    | kernel_rfl
    | simp [go_sem]
    | (simp [binOp, go_sem])
set_option maxHeartbeats 1000000 in
set_option maxRecDepth 100000 in
theorem is_nil (a : Addr) (w : World) : Calls Tryd.prog 44 #[.nilIface, .iface 125 (.pointer (some a))] w fun e w' => e = .returned (.bool false) ∧ w = w' := by
  go_enter Tryd.func44, Tryd.ntmps44
  have hq := nil_iface a
  go_wp2_with fail
  go_ret
  exact ⟨rfl, rfl⟩
def HKPost (H : List UInt8) (w : World) (x : Ending) (w' : World) : Prop := ∃ v, x = .returned (.tuple #[v, .nilIface]) ∧ HsIn w' v [H] ∧ Below w.heap.size w w'
/-- One round. -/
def HKRel (H : List UInt8) (w : World) (hv iv : Value) (wr : World) : Prop :=
  ∃ i : Nat, i ≤ 1 ∧ iv = .int .i64 (i : Int) ∧ wr.ownsRow w.heap.size 33 32 hv i (hcells (List.take i [H])) ∧ Below w.heap.size w wr
set_option maxHeartbeats 2000000 in
set_option maxRecDepth 100000 in
theorem hashes_known (S : Nat → Addr) (lb : Nat) (ls : List ByteArray) (u : Value) (w : World) (hF : FW S w) (hL : LogAt w lb ls) (hl2 : ls.length = 2) (hls : ∀ s ∈ ls, s.size ≤ 65536) (hu : SpIn w u [(1, 2)]) :
    Calls Tryd.prog 28 #[.pointer (some ⟨lb, 0, none⟩), .int .u64 2, u, .nilIface] w fun x w' => HKPost (shaL (leafT (lf ls 1))) w x w' := by
  obtain ⟨zl, hzl, hinfo⟩ := Tryd.infoHash
  obtain ⟨zl0, _, hzv0⟩ := zeroHash
  have HZV := Lib.hid hzv0
  clear hzv0
  obtain ⟨i0, hi, hz0, hz1, hz2⟩ := info_parts hinfo
  obtain ⟨ao, cap, rfl, hr0⟩ := hu
  obtain ⟨g, hao, hr⟩ := hr0 (by simp)
  subst hao
  clear hr0
  obtain ⟨H, hH⟩ : ∃ H, shaL (leafT (lf ls 1)) = H := ⟨_, rfl⟩
  have HHL := Lib.hid (show H.length = 32 by rw [← hH]; exact shaL_len _)
  have HSZ := Lib.hid fun W (hb : Below w.heap.size w W) => (by
    have h := size_log lb ls W (hL.below hb) (by omega)
    rw [hl2] at h
    exact h)
  have HTR := Lib.hid fun (W : World) (hb : Below w.heap.size w W) => (by
    have h := tree_any S lb ls 1 2 W (hF.below hb) (hL.below hb) (by omega) hls (by omega) (by omega)
    refine h.mono ?_
    rintro x w' ⟨T, rfl, _, hT, hbb⟩
    rw [hT (by omega) (by omega) 0 (by omega), if_pos (by omega)]
    simp only [treeF]
    rw [hH]
    exact ⟨rfl, hbb⟩ : Calls Tryd.prog 23 #[.pointer (some ⟨lb, 0, none⟩), .agg #[.int .u64 1, .int .u64 2]] W fun e w' => e = .returned (.tuple #[.agg (Lib.byteCells H).toArray, .nilIface]) ∧ Below W.heap.size W w')
  rw [hH]
  clear hH
  have HR := Lib.hid hr
  have HF := Lib.hid hF
  obtain ⟨aol, capl, frl, hlb, hrl⟩ := hL
  have c1 : w.cell? ⟨lb, 1, none⟩ = some (.bool true) := cell_of hlb 1 rfl
  have g3 := hF.var 3 (by omega)
  simp only [errG, errV] at g3
  have HB0 := Lib.hid (Below.refl w.heap.size w)
  clear hF hr hlb hrl hinfo hls hl2
  go_enter Tryd.func28, Tryd.ntmps28
  go_wp2_with (first | (go_at_call 13; refine (HSZ.out _ HB0.out).mono ?_; rintro e w' ⟨rfl, rfl⟩) | (go_at_call 44; refine (is_nil _ _).mono ?_; rintro e w' ⟨rfl, rfl⟩))
  go_loopw [10, 39] (fun hv iv wr => HKRel H w hv iv wr) (fun _ iv _ => 1 - (intOf iv).toNat)
  case atStart => exact ⟨0, by omega, rfl, World.ownsRow_nil _ _ _ _, HB0.out⟩
  case round =>
    obtain ⟨i, hi1, rfl, hown, hbel⟩ := hrel
    rename World => wA
    obtain ⟨ah, ch, rfl⟩ := owns_anyH hown
    have HOW := Lib.hid hown
    have HBL := Lib.hid hbel
    rcases Nat.lt_or_ge i 1 with h0 | h0
    · obtain rfl : i = 0 := by omega
      have r0 : wA.cell? ⟨g, 0, none⟩ = some (.int .u64 1) := below_cell hbel (HR.out 0 _ rfl)
      have r1 : wA.cell? ⟨g, 1, none⟩ = some (.int .u64 2) := below_cell hbel (HR.out 1 _ rfl)
      clear hown hbel
      go_upto_region 9 with fail
      have hs2 := heap_one wA (.cells #[.int .u64 1, .int .u64 2] 65)
      have HBA := Lib.hid (HBL.out.alloc HBL.out.size (.cells #[.int .u64 1, .int .u64 2] 65))
      have HOA := Lib.hid (HOW.out.alloc (.cells #[.int .u64 1, .int .u64 2] 65))
      generalize wA.alloc (.cells #[.int .u64 1, .int .u64 2] 65) = wB at *
      have d0 := cell_of hs2 0 rfl
      have d1 := cell_of hs2 1 rfl
      clear hs2 r0 r1
      go_upto_region 10 with (first | (refine wpList_hash (by rfl) (.tmp 13) (.tmp 47) (by rfl) (by rfl) (by rfl) (hash_size HHL.out) (by rfl) (byteCells_one H) ?_) | (go_at_call 23; refine (HTR.out wB HBA.out).mono ?_))
      first
        | rintro x wC rfl hbC
        | rintro x wC ⟨rfl, hbC⟩
      have HOC := Lib.hid (owns_below HOA.out hbC)
      have HBC := Lib.hid (HBA.out.trans (hbC.mono HBA.out.size))
      clear hbC d0 d1
      go_upto_region 10 with (refine wpList_hash (by rfl) (.tmp 13) (.tmp 47) (by rfl) (by rfl) (by rfl) (hash_size HHL.out) (by rfl) (byteCells_one H) ?_)
      have H13 := Lib.hid (heap_one wC (.cells (Lib.byteCells H).toArray 33))
      have HOD := Lib.hid (HOC.out.alloc (.cells (Lib.byteCells H).toArray 33))
      have HBD := Lib.hid (HBC.out.alloc HBC.out.size (.cells (Lib.byteCells H).toArray 33))
      generalize wC.alloc (.cells (Lib.byteCells H).toArray 33) = wD at *
      generalize wC.heap.size = g13 at *
      go_wp2_with (first | (refine wpList_load_row (by rfl) 33 (.tmp 13) (by rfl) g13 (by rfl) 33 (Lib.byteCells H).toArray (0, 0) _ H13.out Tryd.underlying33 rfl (by rw [hash_size HHL.out]; exact hashInfo) ?_) | (refine wpList_buildHash zl0 HZV.out (by rfl) (.tmp 53) (by rfl) H (by rfl) HHL.out ?_) | (at_builtin; refine wpList_append_own_at _ rfl _ _ 24 rfl w.heap.size 33 i0 (.agg (Lib.byteCells zl).toArray) 32 32 Tryd.underlying24 hi hz0 hz1 hz2 (hash_size hzl) (by decide) _ _ _ rfl (HOD.out.alloc _) ⟨wD.heap.size, 0, none⟩ 1 1 (Lib.byteCells H) rfl (by rw [Lib.byteCells_length, HHL.out]) (fun j u hj => by rw [Addr.add_mid, Nat.zero_add]; exact cell_of (heap_one wD _) j (by simpa using hj)) (cells_oneC H) (by unfold maxLen; omega) (by omega) (by have := HBD.out.size; simp; omega) ?_))
      intro v' w2' hown' hgrow _ hloc
      have hb2 : Below w.heap.size w w2' := (HBD.out.alloc HBD.out.size _).grown hgrow (by have := HBD.out.size; simp; omega) (fun j hj => (HOD.out.lt j hj).1)
      obtain ⟨ax, cx, rfl⟩ := owns_anyH hown'
      have HO2 := Lib.hid hown'
      have HB2 := Lib.hid hb2
      clear hown' hgrow hloc hb2
      go_wp2_with fail
      exact ⟨⟨1, by omega, by go_num, by have h := HO2.out; simpa [hcells] using h, HB2.out⟩, by simp [intOf]⟩
    · obtain rfl : i = 1 := by omega
      have HHS := Lib.hid (hsIn_of_owns (hs := [H]) (fun h hh => by rw [List.mem_singleton.1 hh]; exact HHL.out) HOW.out)
      clear hown hbel
      go_wp2_with fail
      go_ret2
      exact ⟨_, rfl, HHS.out, HBL.out⟩
end Go.Proofs.YthcccgbodceeeaaDoor
