/-
  forge's closure says at a leaf and at a node; what it says of a stretch.
-/
import Derived.Test.YthcccgbodceeeaaDoorFPSays
namespace Go.Proofs.YthcccgbodceeeaaDoor
open Go.RowKit

set_option maxHeartbeats 1000000 in
set_option maxRecDepth 100000 in
theorem psays_leaf (S : Nat → Addr) (lb mb cb B : Nat) (ls fs : List ByteArray) (zp : List ((Nat × Nat) × List UInt8)) (kc kcut ks b e : Nat) (i : Nat) (s : ByteArray) (w : World) (hE : PartEnv S w lb mb cb B ls fs zp kc kcut ks) (hz : Looks zp) (hb : b ≤ 400) (he : e ≤ 400) (hl : zp.lookup (b, e) = none) (hbe : b < e) (h2 : e - b < 2) (hbi : b = B + i) (hi : fs[i]? = some s) (hs : s.size ≤ 140737488355327) :
    Calls Tryd.prog 34 (saysArgs b e kc kcut ks) w fun x w' => x = .returned (.agg (Lib.byteCells (shaL (leafT (bs s)))).toArray) ∧ Below w.heap.size w w' := by
  obtain ⟨T, hT⟩ : ∃ T, shaL (leafT (bs s)) = T := ⟨_, rfl⟩
  have HTL := Lib.hid (show T.length = 32 by rw [← hT]; exact shaL_len _)
  have HLF := Lib.hid fun (W : World) (hbw : Below w.heap.size w W) => (by
    have h := hleaf_any s (by omega) W (hE.fw.below hbw).tab (hE.fw.below hbw).lt
    rw [hT] at h
    exact h : Calls Tryd.prog 8 #[.string s] W fun e w' => e = .returned (.agg (Lib.byteCells T).toArray) ∧ Below W.heap.size W w')
  rw [hT]
  have HCUT := Lib.hid fun W => (by
    have h := cut_leaf b e (by omega) (by omega) (by omega) W
    unfold spanV at h
    exact h : Calls Tryd.prog 33 #[.agg #[.int .u64 (b : Int), .int .u64 (e : Int)]] W fun x w' => x = .returned (.tuple #[.agg #[.int .u64 (b : Int), .int .u64 (b : Int)], .agg #[.int .u64 (b : Int), .int .u64 (e : Int)], .bool false]) ∧ Below W.heap.size W w')
  have HI := Lib.hid (show IntKind.u64.wrap ((b : Int) - (B : Int)) = (i : Int) ∧ (0 : Int) ≤ (i : Int) ∧ (i : Int) < (fs.length : Int) by
    have := (List.getElem?_eq_some_iff.1 hi).1
    rw [IntKind.wrap_u64]
    omega)
  have HIS := Lib.hid hi
  clear hT hbi hi hs hbe h2
  obtain ⟨z32, hz32, hzs⟩ := z32_ex
  obtain ⟨zl, hzl, hzv⟩ := zeroHash
  have HXL := Lib.hid hzl
  have HLK := Lib.hid (fun (W : World) (hW : Below w.heap.size w W) => (by
    have h := map_look zl hzv (hE.map.below hW) hz.1 hz.2.1 b e (by omega) (by omega)
    rw [hl] at h
    exact h : (Instr.lookup 58 (.map (some mb)) (spanV b e) true).run Tryd.prog W = .ok (.tuple #[.agg (Lib.byteCells zl).toArray, .bool false]) W))
  unfold spanV at HLK
  obtain ⟨lv, t1, fr1, hrow, _⟩ := hE.row
  obtain ⟨t2, fr2, hkc⟩ := hE.c
  have c0 := cell_of hkc 0 rfl
  have c1 := cell_of hrow 1 rfl
  have HE := Lib.hid hE
  clear hE hz hl hkc hrow hzv
  have q1 := below_one w (.cells #[.int .u64 (b : Int), .int .u64 (e : Int)] 65)
  have q2 := below_one (w.alloc (.cells #[.int .u64 (b : Int), .int .u64 (e : Int)] 65)) (.cells z32 33)
  have hA := heap_one w (.cells #[.int .u64 (b : Int), .int .u64 (e : Int)] 65)
  have hB := heap_one (w.alloc (.cells #[.int .u64 (b : Int), .int .u64 (e : Int)] 65)) (.cells z32 33)
  rw [show (w.alloc (.cells #[.int .u64 (b : Int), .int .u64 (e : Int)] 65)).heap.size = w.heap.size + 1 by simp] at hB
  unfold saysArgs
  go_enter Tryd.func34, Tryd.ntmps34
  go_upto_region 1 with fail
  have hq := q1.trans (q2.mono (by simp))
  have hA' := below_heap q2 hA
  generalize ((w.alloc (.cells #[.int .u64 (b : Int), .int .u64 (e : Int)] 65)).alloc (.cells z32 33)) = w2 at *
  clear hA q1 q2
  have c2 := cell_of hA' 0 rfl
  have c3 := cell_of hA' 1 rfl
  have c0 := below_cell hq c0
  have c1 := below_cell hq c1
  have HZ := Lib.hid hB
  have HQ := Lib.hid hq
  have HZS := Lib.hid hzs
  clear hA' hB hq hzs
  go_cut [6, 7] (fun s6 s7 wx => ∃ g6, s6 = .pointer (some ⟨g6, 0, none⟩) ∧ s7 = .bool false ∧ wx.heap[g6]? = some (.cells (Lib.byteCells zl).toArray 33 (0, 0)) ∧ Below w2.heap.size w2 wx)
  case first =>
    have HK := Lib.hid (fun (W' : World) (hb : Below w2.heap.size w2 W') => (⟨hb, below_cell hb c0, below_cell hb c1, below_cell hb c2, below_cell hb c3, HLK.out W' (HQ.out.trans (hb.mono HQ.out.size))⟩ : Below w2.heap.size w2 W' ∧ W'.cell? ⟨kc, 0, none⟩ = some (.pointer (some ⟨cb, 0, none⟩)) ∧ W'.cell? ⟨cb, 1, none⟩ = some (.map (some mb)) ∧ W'.cell? ⟨w.heap.size, 0, none⟩ = some (.int .u64 (b : Int)) ∧ W'.cell? ⟨w.heap.size, 1, none⟩ = some (.int .u64 (e : Int)) ∧
      (Instr.lookup 58 (.map (some mb)) (.agg #[.int .u64 (b : Int), .int .u64 (e : Int)]) true).run Tryd.prog W' = .ok (.tuple #[.agg (Lib.byteCells zl).toArray, .bool false]) W'))
    have hone := cells_oneC zl
    have hinf : (Tryd.prog.info? 33).map (fun x => x.size) = some (Lib.byteCells zl).length := by rw [Lib.byteCells_length, HXL.out]; exact hashInfo
    have hthr : (w2.alloc (.cells z32 33)).drew.there w2.heap.size 0 (Lib.byteCells zl).length := there_row (show (w2.alloc (.cells z32 33)).drew.heap[w2.heap.size]? = some (.cells z32 33 (0, 0)) from heap_one w2 _) (by rw [Lib.byteCells_length, HXL.out, HZS.out]; exact Nat.le_refl _)
    have HSC := Lib.hid (setCells_row (show (w2.alloc (.cells z32 33)).drew.heap[w2.heap.size]? = some (.cells z32 33 (0, 0)) from heap_one w2 _) HZS.out zl HXL.out)
    have hfin := setRow_heap (w2.alloc (.cells z32 33)).drew w2.heap.size _ (Lib.byteCells zl).toArray 33 (0, 0) (show (w2.alloc (.cells z32 33)).drew.heap[w2.heap.size]? = some (.cells z32 33 (0, 0)) from heap_one w2 _)
    have hfb := below_setRow (below_one w2 (.cells z32 33)).drew (Nat.le_refl w2.heap.size) (Lib.byteCells zl).toArray
    rw [← HSC.out] at hfin hfb
    have HFI := Lib.hid hfin
    have HFB := Lib.hid hfb
    clear hfin hfb
    go_region_held3 (fun W' => Below w2.heap.size w2 W' ∧ W'.cell? ⟨kc, 0, none⟩ = some (.pointer (some ⟨cb, 0, none⟩)) ∧ W'.cell? ⟨cb, 1, none⟩ = some (.map (some mb)) ∧ W'.cell? ⟨w.heap.size, 0, none⟩ = some (.int .u64 (b : Int)) ∧ W'.cell? ⟨w.heap.size, 1, none⟩ = some (.int .u64 (e : Int)) ∧
      (Instr.lookup 58 (.map (some mb)) (.agg #[.int .u64 (b : Int), .int .u64 (e : Int)]) true).run Tryd.prog W' = .ok (.tuple #[.agg (Lib.byteCells zl).toArray, .bool false]) W')
      (first | exact HK.out _ (below_drewN (Below.refl _ _) 1) | exact HK.out _ ((below_drewN (Below.refl _ _) 1).alloc (by simp) _) | (rw [HSC.out]; exact HK.out _ (below_setRow (below_one w2 _).drew (Nat.le_refl _) _)))
      (first | fail)
    all_goals (go_wp2_with fail; go_meet; exact ⟨_, rfl, rfl, HFI.out, HFB.out⟩)
  case rest =>
    obtain ⟨g6, rfl, rfl, _, hbc⟩ := hcut
    have HZc := Lib.hid (below_heap hbc HZ.out)
    have HQc := Lib.hid (HQ.out.trans (hbc.mono HQ.out.size))
    have HEc := Lib.hid (HE.out.below HQc.out)
    have c2 := below_cell hbc c2
    have c3 := below_cell hbc c3
    have lws := lt_of_cell c2
    clear hbc c0 c1 hz32
    obtain ⟨t4, fr4, hcut4⟩ := HEc.out.cut
    have c4 := cell_of hcut4 0 rfl
    clear hcut4
    go_upto_region 6 with (go_at_call 33; refine (HCUT.out wc).mono ?_; first | (rintro x wd rfl hbd) | (rintro x wd ⟨rfl, hbd⟩))
    obtain ⟨t1, t2, t3⟩ := two_new wd #[.int .u64 (b : Int), .int .u64 (b : Int)] #[.int .u64 (b : Int), .int .u64 (e : Int)] 65 65
    have hbf := hbd.trans (t3.mono hbd.size)
    generalize (wd.alloc (.cells #[.int .u64 (b : Int), .int .u64 (b : Int)] 65)).alloc (.cells #[.int .u64 (b : Int), .int .u64 (e : Int)] 65) = wf at *
    have HZf := Lib.hid (below_heap hbf HZc.out)
    have HQf := Lib.hid (HQc.out.trans (hbf.mono HQc.out.size))
    have HEf := Lib.hid (HEc.out.below hbf)
    have c2 := below_cell hbf c2
    have lws := lt_of_cell c2
    obtain ⟨t5, fr5, hkc5⟩ := HEf.out.c
    have c0 := cell_of hkc5 0 rfl
    have l0 := lt_of_heap hkc5
    obtain ⟨lv, t6, fr6, hrow6, ao, cap, rfl, hstr⟩ := HEf.out.row
    obtain ⟨g, o, rfl, hrg⟩ := hstr (fun e => by have := HIS.out; rw [e] at this; simp at this)
    have d2 := cell_of hrow6 2 rfl
    have d3 := cell_of hrow6 3 rfl
    have l1 := lt_of_heap hrow6
    have d4 : wf.cell? ⟨g, o + i, none⟩ = some (.string s) := hrg i _ (by rw [List.getElem?_map, HIS.out]; rfl)
    have l2 : g < wf.heap.size := lt_of_cell d4
    obtain ⟨hi3, hi4, hi5⟩ := HI.out
    clear hbd t1 t2 t3 hbf hkc5 hrow6 hstr hrg c3 c4
    refine wp_region_kept_tail 14 (by kernel_rfl) (by kernel_rfl) ?_
    simp only [List.take_succ_cons, List.take_zero, List.drop_succ_cons, List.drop_zero]
    iterate 13 go_big_quiet_step (fail)
    go_big_quiet_step ((go_at_call 8; rename Kept _ => x; exact Kept.call (HLF.out x.w (HQf.out.trans (x.below.mono HQf.out.size)))))
    refine wpQuiet_nil ?_
    intro x
    have HZy := Lib.hid (x.heap_old HZf.out)
    have HQy := Lib.hid (HQf.out.trans (x.below.mono HQf.out.size))
    generalize x.w = wy at *
    clear hi3 hi4 hi5
    have HRE := Lib.hid (setRow_heap wy (w.heap.size + 1) _ (Lib.byteCells T).toArray 33 (0, 0) HZy.out)
    have HBR := Lib.hid (below_setRow HQy.out (Nat.le_succ _) (Lib.byteCells T).toArray)
    go_wp2_with (refine wpList_store_row (by rfl) 33 (.tmp 5) (.tmp 44) (by rfl) (w.heap.size + 1) (Lib.byteCells T).toArray (by rfl) (by rfl) 33 z32 HZy.out (by rw [hash_size HTL.out]; exact hashInfo) (by rw [hash_size HTL.out, HZS.out]) (byteCells_one T) ?_)
    generalize wy.setRow (w.heap.size + 1) (Lib.byteCells T).toArray = wJ at *
    exact bodyPost_ret (results_row0 rfl _ _ (w.heap.size + 1) 33 _ (0, 0) _ rfl HRE.out Tryd.underlying33 rfl (by rw [hash_size HTL.out]; exact hashInfo)) rfl ⟨rfl, HBR.out⟩
set_option maxHeartbeats 1000000 in
set_option maxRecDepth 100000 in
theorem psays_node (S : Nat → Addr) (lb mb cb B : Nat) (ls fs : List ByteArray) (zp : List ((Nat × Nat) × List UInt8)) (kc kcut ks b e : Nat) (k : Nat) (A A' T : List UInt8) (w : World) (hE : PartEnv S w lb mb cb B ls fs zp kc kcut ks) (hz : Looks zp) (hb : b ≤ 400) (he : e ≤ 400) (hl : zp.lookup (b, e) = none) (h2 : 2 ≤ e - b) (hk : spL (e - b) = k)
    (hA0 : A.length = 32) (hA1 : A'.length = 32) (hT : shaL (nodeT A A') = T)
    (H1 : ∀ W, PartEnv S W lb mb cb B ls fs zp kc kcut ks → Calls Tryd.prog 34 (saysArgs b ((b : Int) + (k : Int)) kc kcut ks) W fun x w' => x = .returned (.agg (Lib.byteCells A).toArray) ∧ Below W.heap.size W w')
    (H2 : ∀ W, PartEnv S W lb mb cb B ls fs zp kc kcut ks → Calls Tryd.prog 34 (saysArgs ((b : Int) + (k : Int)) e kc kcut ks) W fun x w' => x = .returned (.agg (Lib.byteCells A').toArray) ∧ Below W.heap.size W w') :
    Calls Tryd.prog 34 (saysArgs b e kc kcut ks) w fun x w' => x = .returned (.agg (Lib.byteCells T).toArray) ∧ Below w.heap.size w w' := by
  have HTL := Lib.hid (show T.length = 32 by rw [← hT]; exact shaL_len _)
  have HND := Lib.hid fun (W : World) (hbw : Below w.heap.size w W) => (by
    have h := node_any A A' hA0 hA1 W (hE.fw.below hbw).tab (hE.fw.below hbw).lt
    rw [show (1 :: (A ++ A') : List UInt8) = nodeT A A' from rfl, hT] at h
    exact h : Calls Tryd.prog 16 #[.agg (Lib.byteCells A).toArray, .agg (Lib.byteCells A').toArray] W fun e w' => e = .returned (.agg (Lib.byteCells T).toArray) ∧ Below W.heap.size W w')
  have HCUT := Lib.hid fun W => (by
    have h := cut_more b e h2 (by omega) W
    unfold spanV at h
    rw [hk, show ((b + k : Nat) : Int) = (b : Int) + (k : Int) by push_cast; rfl] at h
    exact h : Calls Tryd.prog 33 #[.agg #[.int .u64 (b : Int), .int .u64 (e : Int)]] W fun x w' => x = .returned (.tuple #[.agg #[.int .u64 (b : Int), .int .u64 ((b : Int) + (k : Int))], .agg #[.int .u64 ((b : Int) + (k : Int)), .int .u64 (e : Int)], .bool true]) ∧ Below W.heap.size W w')
  have HH1 := Lib.hid H1
  have HH2 := Lib.hid H2
  clear hT hA0 hA1 H1 H2 h2 hk
  unfold saysArgs at HH1 HH2
  obtain ⟨z32, hz32, hzs⟩ := z32_ex
  obtain ⟨zl, hzl, hzv⟩ := zeroHash
  have HXL := Lib.hid hzl
  have HLK := Lib.hid (fun (W : World) (hW : Below w.heap.size w W) => (by
    have h := map_look zl hzv (hE.map.below hW) hz.1 hz.2.1 b e (by omega) (by omega)
    rw [hl] at h
    exact h : (Instr.lookup 58 (.map (some mb)) (spanV b e) true).run Tryd.prog W = .ok (.tuple #[.agg (Lib.byteCells zl).toArray, .bool false]) W))
  unfold spanV at HLK
  obtain ⟨lv, t1, fr1, hrow, _⟩ := hE.row
  obtain ⟨t2, fr2, hkc⟩ := hE.c
  have c0 := cell_of hkc 0 rfl
  have c1 := cell_of hrow 1 rfl
  have HE := Lib.hid hE
  clear hE hz hl hkc hrow hzv
  have q1 := below_one w (.cells #[.int .u64 (b : Int), .int .u64 (e : Int)] 65)
  have q2 := below_one (w.alloc (.cells #[.int .u64 (b : Int), .int .u64 (e : Int)] 65)) (.cells z32 33)
  have hA := heap_one w (.cells #[.int .u64 (b : Int), .int .u64 (e : Int)] 65)
  have hB := heap_one (w.alloc (.cells #[.int .u64 (b : Int), .int .u64 (e : Int)] 65)) (.cells z32 33)
  rw [show (w.alloc (.cells #[.int .u64 (b : Int), .int .u64 (e : Int)] 65)).heap.size = w.heap.size + 1 by simp] at hB
  unfold saysArgs
  go_enter Tryd.func34, Tryd.ntmps34
  go_upto_region 1 with fail
  have hq := q1.trans (q2.mono (by simp))
  have hA' := below_heap q2 hA
  generalize ((w.alloc (.cells #[.int .u64 (b : Int), .int .u64 (e : Int)] 65)).alloc (.cells z32 33)) = w2 at *
  clear hA q1 q2
  have c2 := cell_of hA' 0 rfl
  have c3 := cell_of hA' 1 rfl
  have c0 := below_cell hq c0
  have c1 := below_cell hq c1
  have HZ := Lib.hid hB
  have HQ := Lib.hid hq
  have HZS := Lib.hid hzs
  clear hA' hB hq hzs
  go_cut [6, 7] (fun s6 s7 wx => ∃ g6, s6 = .pointer (some ⟨g6, 0, none⟩) ∧ s7 = .bool false ∧ wx.heap[g6]? = some (.cells (Lib.byteCells zl).toArray 33 (0, 0)) ∧ Below w2.heap.size w2 wx)
  case first =>
    have HK := Lib.hid (fun (W' : World) (hb : Below w2.heap.size w2 W') => (⟨hb, below_cell hb c0, below_cell hb c1, below_cell hb c2, below_cell hb c3, HLK.out W' (HQ.out.trans (hb.mono HQ.out.size))⟩ : Below w2.heap.size w2 W' ∧ W'.cell? ⟨kc, 0, none⟩ = some (.pointer (some ⟨cb, 0, none⟩)) ∧ W'.cell? ⟨cb, 1, none⟩ = some (.map (some mb)) ∧ W'.cell? ⟨w.heap.size, 0, none⟩ = some (.int .u64 (b : Int)) ∧ W'.cell? ⟨w.heap.size, 1, none⟩ = some (.int .u64 (e : Int)) ∧
      (Instr.lookup 58 (.map (some mb)) (.agg #[.int .u64 (b : Int), .int .u64 (e : Int)]) true).run Tryd.prog W' = .ok (.tuple #[.agg (Lib.byteCells zl).toArray, .bool false]) W'))
    have hone := cells_oneC zl
    have hinf : (Tryd.prog.info? 33).map (fun x => x.size) = some (Lib.byteCells zl).length := by rw [Lib.byteCells_length, HXL.out]; exact hashInfo
    have hthr : (w2.alloc (.cells z32 33)).drew.there w2.heap.size 0 (Lib.byteCells zl).length := there_row (show (w2.alloc (.cells z32 33)).drew.heap[w2.heap.size]? = some (.cells z32 33 (0, 0)) from heap_one w2 _) (by rw [Lib.byteCells_length, HXL.out, HZS.out]; exact Nat.le_refl _)
    have HSC := Lib.hid (setCells_row (show (w2.alloc (.cells z32 33)).drew.heap[w2.heap.size]? = some (.cells z32 33 (0, 0)) from heap_one w2 _) HZS.out zl HXL.out)
    have hfin := setRow_heap (w2.alloc (.cells z32 33)).drew w2.heap.size _ (Lib.byteCells zl).toArray 33 (0, 0) (show (w2.alloc (.cells z32 33)).drew.heap[w2.heap.size]? = some (.cells z32 33 (0, 0)) from heap_one w2 _)
    have hfb := below_setRow (below_one w2 (.cells z32 33)).drew (Nat.le_refl w2.heap.size) (Lib.byteCells zl).toArray
    rw [← HSC.out] at hfin hfb
    have HFI := Lib.hid hfin
    have HFB := Lib.hid hfb
    clear hfin hfb
    go_region_held3 (fun W' => Below w2.heap.size w2 W' ∧ W'.cell? ⟨kc, 0, none⟩ = some (.pointer (some ⟨cb, 0, none⟩)) ∧ W'.cell? ⟨cb, 1, none⟩ = some (.map (some mb)) ∧ W'.cell? ⟨w.heap.size, 0, none⟩ = some (.int .u64 (b : Int)) ∧ W'.cell? ⟨w.heap.size, 1, none⟩ = some (.int .u64 (e : Int)) ∧
      (Instr.lookup 58 (.map (some mb)) (.agg #[.int .u64 (b : Int), .int .u64 (e : Int)]) true).run Tryd.prog W' = .ok (.tuple #[.agg (Lib.byteCells zl).toArray, .bool false]) W')
      (first | exact HK.out _ (below_drewN (Below.refl _ _) 1) | exact HK.out _ ((below_drewN (Below.refl _ _) 1).alloc (by simp) _) | (rw [HSC.out]; exact HK.out _ (below_setRow (below_one w2 _).drew (Nat.le_refl _) _)))
      (first | fail)
    all_goals (go_wp2_with fail; go_meet; exact ⟨_, rfl, rfl, HFI.out, HFB.out⟩)
  case rest =>
    obtain ⟨g6, rfl, rfl, _, hbc⟩ := hcut
    have HZc := Lib.hid (below_heap hbc HZ.out)
    have HQc := Lib.hid (HQ.out.trans (hbc.mono HQ.out.size))
    have HEc := Lib.hid (HE.out.below HQc.out)
    have c2 := below_cell hbc c2
    have c3 := below_cell hbc c3
    have lws := lt_of_cell c2
    clear hbc c0 c1 hz32
    obtain ⟨t4, fr4, hcut4⟩ := HEc.out.cut
    have c4 := cell_of hcut4 0 rfl
    clear hcut4
    go_upto_region 7 with (go_at_call 33; refine (HCUT.out wc).mono ?_; first | (rintro x wd rfl hbd) | (rintro x wd ⟨rfl, hbd⟩))
    obtain ⟨t1, t2, t3⟩ := two_new wd #[.int .u64 (b : Int), .int .u64 ((b : Int) + (k : Int))] #[.int .u64 ((b : Int) + (k : Int)), .int .u64 (e : Int)] 65 65
    have hbf := hbd.trans (t3.mono hbd.size)
    generalize (wd.alloc (.cells #[.int .u64 (b : Int), .int .u64 ((b : Int) + (k : Int))] 65)).alloc (.cells #[.int .u64 ((b : Int) + (k : Int)), .int .u64 (e : Int)] 65) = wf at *
    have HZf := Lib.hid (below_heap hbf HZc.out)
    have HQf := Lib.hid (HQc.out.trans (hbf.mono HQc.out.size))
    have HEf := Lib.hid (HEc.out.below hbf)
    obtain ⟨t5, fr5, hks5⟩ := HEf.out.says
    have c0 := cell_of hks5 0 rfl
    have l0 := lt_of_heap hks5
    have e1 := cell_of t1 0 rfl
    have e2 := cell_of t1 1 rfl
    have e3 := cell_of t2 0 rfl
    have e4 := cell_of t2 1 rfl
    have l1 := lt_of_heap t1
    have l2 := lt_of_heap t2
    clear hbd t1 t2 t3 hbf hks5 c2 c3 c4 lws
    refine wp_region_kept_tail 7 (by kernel_rfl) (by kernel_rfl) ?_
    simp only [List.take_succ_cons, List.take_zero, List.drop_succ_cons, List.drop_zero]
    iterate 2 go_big_quiet_step (fail)
    go_big_quiet_step ((go_at_call 34; rename Kept _ => x; exact Kept.call (HH1.out x.w (HEf.out.below x.below))))
    iterate 2 go_big_quiet_step (fail)
    go_big_quiet_step ((go_at_call 34; rename Kept _ => x; exact Kept.call (HH2.out x.w (HEf.out.below x.below))))
    go_big_quiet_step ((go_at_call 16; rename Kept _ => x; exact Kept.call (HND.out x.w (HQf.out.trans (x.below.mono HQf.out.size)))))
    refine wpQuiet_nil ?_
    intro x
    have HZy := Lib.hid (x.heap_old HZf.out)
    have HQy := Lib.hid (HQf.out.trans (x.below.mono HQf.out.size))
    generalize x.w = wy at *
    have HRE := Lib.hid (setRow_heap wy (w.heap.size + 1) _ (Lib.byteCells T).toArray 33 (0, 0) HZy.out)
    have HBR := Lib.hid (below_setRow HQy.out (Nat.le_succ _) (Lib.byteCells T).toArray)
    go_wp2_with (refine wpList_store_row (by rfl) 33 (.tmp 5) (.tmp 51) (by rfl) (w.heap.size + 1) (Lib.byteCells T).toArray (by rfl) (by rfl) 33 z32 HZy.out (by rw [hash_size HTL.out]; exact hashInfo) (by rw [hash_size HTL.out, HZS.out]) (byteCells_one T) ?_)
    generalize wy.setRow (w.heap.size + 1) (Lib.byteCells T).toArray = wJ at *
    exact bodyPost_ret (results_row0 rfl _ _ (w.heap.size + 1) 33 _ (0, 0) _ rfl HRE.out Tryd.underlying33 rfl (by rw [hash_size HTL.out]; exact hashInfo)) rfl ⟨rfl, HBR.out⟩
/-- What the map tells, as a claim's own hashes. -/
def lookP (zp : List ((Nat × Nat) × List UInt8)) (b e : Nat) : List UInt8 := (zp.lookup (b, e)).getD (List.replicate 32 0)
/-- The map knows just the stretches outside. -/
def Knows (zp : List ((Nat × Nat) × List UInt8)) (B E f b e : Nat) : Prop := (∀ s ∈ outsF spL B E f b e, (zp.lookup s).isSome = true) ∧ ∀ b e, b < e → ¬ (e ≤ B ∨ E ≤ b) → zp.lookup (b, e) = none
theorem knows_out {zp : List ((Nat × Nat) × List UInt8)} {B E f b e : Nat} (h : Knows zp B E f b e) (ho : e ≤ B ∨ E ≤ b) : zp.lookup (b, e) = some (lookP zp b e) := by
  have h1 : (zp.lookup (b, e)).isSome = true := h.1 (b, e) (by cases f <;> simp only [outsF] <;> rw [if_pos ho] <;> exact List.mem_singleton.2 rfl)
  obtain ⟨X, hX⟩ := Option.isSome_iff_exists.1 h1
  unfold lookP
  rw [hX]
  rfl
theorem outsF_two {B E f b e : Nat} (ho : ¬ (e ≤ B ∨ E ≤ b)) (h2 : 2 ≤ e - b) : outsF spL B E (f + 1) b e = outsF spL B E f b (b + spL (e - b)) ++ outsF spL B E f (b + spL (e - b)) e := by
  obtain ⟨k1, k2⟩ := spL_mid' h2
  rw [outsF, if_neg ho]
  split
  · rename_i hin
    rw [outs_inside spL B E f b _ hin.1 (by omega) (by omega), outs_inside spL B E f _ e (by omega) hin.2 (by omega)]
    rfl
  · rfl
theorem knows_two {zp : List ((Nat × Nat) × List UInt8)} {B E f b e : Nat} (h : Knows zp B E (f + 1) b e) (ho : ¬ (e ≤ B ∨ E ≤ b)) (h2 : 2 ≤ e - b) : Knows zp B E f b (b + spL (e - b)) ∧ Knows zp B E f (b + spL (e - b)) e := by
  rw [Knows, outsF_two ho h2] at h
  exact ⟨⟨fun s hs => h.1 s (List.mem_append_left _ hs), h.2⟩, ⟨fun s hs => h.1 s (List.mem_append_right _ hs), h.2⟩⟩
theorem lookP_len {zp : List ((Nat × Nat) × List UInt8)} (hz : Looks zp) (b e : Nat) : (lookP zp b e).length = 32 := by
  unfold lookP
  cases h : zp.lookup (b, e) with
  | none => rfl
  | some p =>
    obtain ⟨l1, l2, h1, _⟩ := List.lookup_eq_some_iff.1 h
    exact hz.2.2 _ (by rw [h1]; exact List.mem_append_right _ (List.mem_cons_self ..))
theorem psays_any (S : Nat → Addr) (lb mb cb B : Nat) (ls fs : List ByteArray) (zp : List ((Nat × Nat) × List UInt8)) (kc kcut ks : Nat) (F : Nat → List UInt8) (hz : Looks zp) (hF : ∀ i, i < fs.length → ∃ s, fs[i]? = some s ∧ F (B + i) = bs s ∧ s.size ≤ 140737488355327) :
    ∀ (f b e : Nat) (w : World), PartEnv S w lb mb cb B ls fs zp kc kcut ks → b < e → e ≤ 400 → e - b ≤ f + 1 → Knows zp B (B + fs.length) f b e →
    Calls Tryd.prog 34 (saysArgs b e kc kcut ks) w fun x w' => x = .returned (.agg (Lib.byteCells (saysF spL (lookP zp) F B (B + fs.length) f b e)).toArray) ∧ Below w.heap.size w w'
  | 0, b, e, w, hE, hbe, he, hf, hk => by
    by_cases ho : e ≤ B ∨ B + fs.length ≤ b
    · rw [saysF, if_pos ho]
      exact psays_out S lb mb cb B ls fs zp kc kcut ks b e _ w hE hz (by omega) he (knows_out hk ho)
    · rw [saysF, if_neg ho]
      obtain ⟨s, h1, h2, h3⟩ := hF (b - B) (by omega)
      rw [show B + (b - B) = b by omega] at h2
      rw [h2]
      exact psays_leaf S lb mb cb B ls fs zp kc kcut ks b e (b - B) s w hE hz (by omega) he (hk.2 b e hbe ho) hbe (by omega) (by omega) h1 h3
  | f + 1, b, e, w, hE, hbe, he, hf, hk => by
    by_cases ho : e ≤ B ∨ B + fs.length ≤ b
    · rw [saysF, if_pos ho]
      exact psays_out S lb mb cb B ls fs zp kc kcut ks b e _ w hE hz (by omega) he (knows_out hk ho)
    · by_cases h2 : e - b < 2
      · rw [saysF, if_neg ho, if_pos h2]
        obtain ⟨s, h1, h4, h3⟩ := hF (b - B) (by omega)
        rw [show B + (b - B) = b by omega] at h4
        rw [h4]
        exact psays_leaf S lb mb cb B ls fs zp kc kcut ks b e (b - B) s w hE hz (by omega) he (hk.2 b e hbe ho) hbe (by omega) (by omega) h1 h3
      · rw [saysF, if_neg ho, if_neg h2]
        obtain ⟨k1, k2⟩ := spL_mid' (show 2 ≤ e - b by omega)
        obtain ⟨q1, q2⟩ := knows_two hk ho (by omega)
        refine psays_node S lb mb cb B ls fs zp kc kcut ks b e (spL (e - b)) _ _ _ w hE hz (by omega) he (hk.2 b e hbe ho) (by omega) rfl (saysF_len shaL_len _ _ (lookP_len hz) _ _ _ _ _ _) (saysF_len shaL_len _ _ (lookP_len hz) _ _ _ _ _ _) rfl (fun W hW => ?_) (fun W hW => ?_)
        · have := psays_any S lb mb cb B ls fs zp kc kcut ks F hz hF f b (b + spL (e - b)) W hW (by omega) (by omega) (by omega) q1
          rwa [show ((b + spL (e - b) : Nat) : Int) = (b : Int) + (spL (e - b) : Int) by push_cast; rfl] at this
        · have := psays_any S lb mb cb B ls fs zp kc kcut ks F hz hF f (b + spL (e - b)) e W hW (by omega) (by omega) (by omega) q2
          rwa [show ((b + spL (e - b) : Nat) : Int) = (b : Int) + (spL (e - b) : Int) by push_cast; rfl] at this
end Go.Proofs.YthcccgbodceeeaaDoor
