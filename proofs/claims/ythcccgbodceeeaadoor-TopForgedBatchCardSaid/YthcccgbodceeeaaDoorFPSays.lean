/-
  forge's closure says, over the map of what was said.
-/
import Derived.Test.YthcccgbodceeeaaDoorFMap
import Derived.Test.YthcccgbodceeeaaDoorFRoot
import Derived.Deep.RegionHeld3
namespace Go.Proofs.YthcccgbodceeeaaDoor
open Go.RowKit

/-- What the closures of part see. -/
structure PartEnv (S : Nat → Addr) (w : World) (lb mb cb B : Nat) (ls fs : List ByteArray) (zp : List ((Nat × Nat) × List UInt8)) (kc kcut ks : Nat) : Prop where
  fw : FW S w
  log : LogAt w lb ls
  map : MapAt w mb zp
  row : ∃ lv t fr, w.heap[cb]? = some (.cells #[.pointer (some ⟨lb, 0, none⟩), .map (some mb), .int .u64 (B : Int), lv] t fr) ∧ StrsIn w lv fs
  c : ∃ t fr, w.heap[kc]? = some (.cells #[.pointer (some ⟨cb, 0, none⟩)] t fr)
  cut : ∃ t fr, w.heap[kcut]? = some (.cells #[.func (.func 33) #[] #[]] t fr)
  says : ∃ t fr, w.heap[ks]? = some (.cells #[.func (.func 34) #[] #[.pointer (some ⟨kc, 0, none⟩), .pointer (some ⟨kcut, 0, none⟩), .pointer (some ⟨ks, 0, none⟩)]] t fr)
theorem PartEnv.below {S : Nat → Addr} {w w' : World} {lb mb cb B : Nat} {ls fs : List ByteArray} {zp : List ((Nat × Nat) × List UInt8)} {kc kcut ks : Nat} (h : PartEnv S w lb mb cb B ls fs zp kc kcut ks) (hb : Below w.heap.size w w') : PartEnv S w' lb mb cb B ls fs zp kc kcut ks where
  fw := h.fw.below hb
  log := h.log.below hb
  map := h.map.below hb
  row := by obtain ⟨lv, t, fr, h1, h2⟩ := h.row; exact ⟨lv, t, fr, below_heap hb h1, h2.below hb⟩
  c := by obtain ⟨t, fr, h⟩ := h.c; exact ⟨t, fr, below_heap hb h⟩
  cut := by obtain ⟨t, fr, h⟩ := h.cut; exact ⟨t, fr, below_heap hb h⟩
  says := by obtain ⟨t, fr, h⟩ := h.says; exact ⟨t, fr, below_heap hb h⟩
/-- What the map tells of a stretch is known in every world. -/
def Looks (zp : List ((Nat × Nat) × List UInt8)) : Prop := SmallKeys zp ∧ zp.Pairwise (fun p q => p.1 ≠ q.1) ∧ ∀ p ∈ zp, p.2.length = 32
def saysArgs (b e : Int) (kc kcut ks : Nat) : Array Value := #[.agg #[.int .u64 b, .int .u64 e], .pointer (some ⟨kc, 0, none⟩), .pointer (some ⟨kcut, 0, none⟩), .pointer (some ⟨ks, 0, none⟩)]
theorem there_row {W : World} {g : Nat} {z : Array Value} {T : TypeId} (h : W.heap[g]? = some (.cells z T (0, 0))) {n : Nat} (hn : n ≤ z.size) : W.there g 0 n := fun j hj => by
  rw [Nat.zero_add]
  exact ⟨by rw [cell_of h j (Array.getElem?_eq_getElem (show j < z.size by omega))]; rfl, frozen_row h j⟩
theorem setCells_row {W : World} {g : Nat} {z : Array Value} (h : W.heap[g]? = some (.cells z 33 (0, 0))) (hz : z.size = 32) (X : List UInt8) (hX : X.length = 32) : W.setCells g 0 (Lib.byteCells X) = W.setRow g (Lib.byteCells X).toArray := by
  have h1 := run_storeVar_mid (P := Tryd.prog) W g 0 33 (Lib.byteCells X).toArray (there_row h (by rw [hash_size hX, hz]; exact Nat.le_refl _)) (by rw [hash_size hX]; exact hashInfo) (byteCells_one X)
  have h2 := run_storeVar_row (P := Tryd.prog) W g 33 33 z (Lib.byteCells X).toArray h (by rw [hash_size hX]; exact hashInfo) (by rw [hash_size hX, hz]) (byteCells_one X)
  rw [h1] at h2
  injection h2
theorem cells_oneC (X : List UInt8) : ∀ v ∈ Lib.byteCells X, v.oneCell' = true := fun v hv => by
  obtain ⟨b, _, rfl⟩ := List.mem_map.1 hv
  rfl
set_option maxHeartbeats 1000000 in
set_option maxRecDepth 100000 in
theorem psays_out (S : Nat → Addr) (lb mb cb B : Nat) (ls fs : List ByteArray) (zp : List ((Nat × Nat) × List UInt8)) (kc kcut ks b e : Nat) (X : List UInt8) (w : World) (hE : PartEnv S w lb mb cb B ls fs zp kc kcut ks) (hz : Looks zp) (hb : b ≤ 400) (he : e ≤ 400) (hl : zp.lookup (b, e) = some X) :
    Calls Tryd.prog 34 (saysArgs b e kc kcut ks) w fun x w' => x = .returned (.agg (Lib.byteCells X).toArray) ∧ Below w.heap.size w w' := by
  obtain ⟨z32, hz32, hzs⟩ := z32_ex
  obtain ⟨zl, hzl, hzv⟩ := zeroHash
  have HXL := Lib.hid (show X.length = 32 by
    obtain ⟨l1, l2, h1, _⟩ := List.lookup_eq_some_iff.1 hl
    exact hz.2.2 _ (by rw [h1]; exact List.mem_append_right _ (List.mem_cons_self ..)))
  have HLK := Lib.hid (fun (W : World) (hW : Below w.heap.size w W) => (by
    have h := map_look zl hzv (hE.map.below hW) hz.1 hz.2.1 b e (by omega) (by omega)
    rw [hl] at h
    exact h : (Instr.lookup 58 (.map (some mb)) (spanV b e) true).run Tryd.prog W = .ok (.tuple #[.agg (Lib.byteCells X).toArray, .bool true]) W))
  unfold spanV at HLK
  obtain ⟨lv, t1, fr1, hrow, _⟩ := hE.row
  obtain ⟨t2, fr2, hkc⟩ := hE.c
  have c0 := cell_of hkc 0 rfl
  have c1 := cell_of hrow 1 rfl
  clear hE hz hl hkc hrow hzv
  have q1 := below_one w (.cells #[.int .u64 (b : Int), .int .u64 (e : Int)] 65)
  have q2 := below_one (w.alloc (.cells #[.int .u64 (b : Int), .int .u64 (e : Int)] 65)) (.cells z32 33)
  have hA := heap_one w (.cells #[.int .u64 (b : Int), .int .u64 (e : Int)] 65)
  have hB := heap_one (w.alloc (.cells #[.int .u64 (b : Int), .int .u64 (e : Int)] 65)) (.cells z32 33)
  rw [show (w.alloc (.cells #[.int .u64 (b : Int), .int .u64 (e : Int)] 65)).heap.size = w.heap.size + 1 by simp] at hB
  unfold saysArgs
  go_enter Tryd.func34, Tryd.ntmps34
  go_upto_region 1 with fail
  have hq := q1.trans (q2.mono (by simp))
  have hA' := below_heap q2 hA
  generalize ((w.alloc (.cells #[.int .u64 (b : Int), .int .u64 (e : Int)] 65)).alloc (.cells z32 33)) = w2 at *
  clear hA q1 q2
  have c2 := cell_of hA' 0 rfl
  have c3 := cell_of hA' 1 rfl
  have c0 := below_cell hq c0
  have c1 := below_cell hq c1
  have HZ := Lib.hid hB
  have HQ := Lib.hid hq
  have HZS := Lib.hid hzs
  clear hA' hB hq hzs
  go_cut [6, 7] (fun s6 s7 wx => ∃ g6, s6 = .pointer (some ⟨g6, 0, none⟩) ∧ s7 = .bool true ∧ wx.heap[g6]? = some (.cells (Lib.byteCells X).toArray 33 (0, 0)) ∧ Below w2.heap.size w2 wx)
  case first =>
    have HK := Lib.hid (fun (W' : World) (hb : Below w2.heap.size w2 W') => (⟨hb, below_cell hb c0, below_cell hb c1, below_cell hb c2, below_cell hb c3, HLK.out W' (HQ.out.trans (hb.mono HQ.out.size))⟩ : Below w2.heap.size w2 W' ∧ W'.cell? ⟨kc, 0, none⟩ = some (.pointer (some ⟨cb, 0, none⟩)) ∧ W'.cell? ⟨cb, 1, none⟩ = some (.map (some mb)) ∧ W'.cell? ⟨w.heap.size, 0, none⟩ = some (.int .u64 (b : Int)) ∧ W'.cell? ⟨w.heap.size, 1, none⟩ = some (.int .u64 (e : Int)) ∧
      (Instr.lookup 58 (.map (some mb)) (.agg #[.int .u64 (b : Int), .int .u64 (e : Int)]) true).run Tryd.prog W' = .ok (.tuple #[.agg (Lib.byteCells X).toArray, .bool true]) W'))
    have hone := cells_oneC X
    have hinf : (Tryd.prog.info? 33).map (fun x => x.size) = some (Lib.byteCells X).length := by rw [Lib.byteCells_length, HXL.out]; exact hashInfo
    have hthr : (w2.alloc (.cells z32 33)).drew.there w2.heap.size 0 (Lib.byteCells X).length := there_row (show (w2.alloc (.cells z32 33)).drew.heap[w2.heap.size]? = some (.cells z32 33 (0, 0)) from heap_one w2 _) (by rw [Lib.byteCells_length, HXL.out, HZS.out]; exact Nat.le_refl _)
    have HSC := Lib.hid (setCells_row (show (w2.alloc (.cells z32 33)).drew.heap[w2.heap.size]? = some (.cells z32 33 (0, 0)) from heap_one w2 _) HZS.out X HXL.out)
    have hfin := setRow_heap (w2.alloc (.cells z32 33)).drew w2.heap.size _ (Lib.byteCells X).toArray 33 (0, 0) (show (w2.alloc (.cells z32 33)).drew.heap[w2.heap.size]? = some (.cells z32 33 (0, 0)) from heap_one w2 _)
    have hfb := below_setRow (below_one w2 (.cells z32 33)).drew (Nat.le_refl w2.heap.size) (Lib.byteCells X).toArray
    rw [← HSC.out] at hfin hfb
    have HFI := Lib.hid hfin
    have HFB := Lib.hid hfb
    clear hfin hfb
    go_region_held3 (fun W' => Below w2.heap.size w2 W' ∧ W'.cell? ⟨kc, 0, none⟩ = some (.pointer (some ⟨cb, 0, none⟩)) ∧ W'.cell? ⟨cb, 1, none⟩ = some (.map (some mb)) ∧ W'.cell? ⟨w.heap.size, 0, none⟩ = some (.int .u64 (b : Int)) ∧ W'.cell? ⟨w.heap.size, 1, none⟩ = some (.int .u64 (e : Int)) ∧
      (Instr.lookup 58 (.map (some mb)) (.agg #[.int .u64 (b : Int), .int .u64 (e : Int)]) true).run Tryd.prog W' = .ok (.tuple #[.agg (Lib.byteCells X).toArray, .bool true]) W')
      (first | exact HK.out _ (below_drewN (Below.refl _ _) 1) | exact HK.out _ ((below_drewN (Below.refl _ _) 1).alloc (by simp) _) | (rw [HSC.out]; exact HK.out _ (below_setRow (below_one w2 _).drew (Nat.le_refl _) _)))
      (first | fail)
    all_goals (go_wp2_with fail; go_meet; exact ⟨_, rfl, rfl, HFI.out, HFB.out⟩)
  case rest =>
    obtain ⟨g6, rfl, rfl, h6, hbc⟩ := hcut
    have H6 := Lib.hid h6
    have HZc := Lib.hid (below_heap hbc HZ.out)
    have HQc := Lib.hid (HQ.out.trans (hbc.mono HQ.out.size))
    clear h6 hbc c0 c1 c2 c3 hz32
    go_wp2_with (first | (refine wpList_load_row (by rfl) 33 (.tmp 6) (by rfl) g6 (by rfl) 33 (Lib.byteCells X).toArray (0, 0) _ H6.out Tryd.underlying33 rfl (by rw [hash_size HXL.out]; exact hashInfo) ?_) | (refine wpList_store_row (by rfl) 33 (.tmp 5) (.tmp 21) (by rfl) (w.heap.size + 1) (Lib.byteCells X).toArray (by rfl) (by rfl) 33 z32 HZc.out (by rw [hash_size HXL.out]; exact hashInfo) (by rw [hash_size HXL.out, HZS.out]) (byteCells_one X) ?_))
    have HRE := Lib.hid (setRow_heap wc (w.heap.size + 1) _ (Lib.byteCells X).toArray 33 (0, 0) HZc.out)
    have HBR := Lib.hid (below_setRow HQc.out (Nat.le_succ _) (Lib.byteCells X).toArray)
    generalize wc.setRow (w.heap.size + 1) (Lib.byteCells X).toArray = wJ at *
    exact bodyPost_ret (results_row0 rfl _ _ (w.heap.size + 1) 33 _ (0, 0) _ rfl HRE.out Tryd.underlying33 rfl (by rw [hash_size HXL.out]; exact hashInfo)) rfl ⟨rfl, HBR.out⟩
end Go.Proofs.YthcccgbodceeeaaDoor
