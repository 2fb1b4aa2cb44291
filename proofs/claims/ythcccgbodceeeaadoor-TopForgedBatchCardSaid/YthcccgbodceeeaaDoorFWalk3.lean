/-
  forge's closure walk at a node.
-/
import Derived.Test.YthcccgbodceeeaaDoorFWalk2
namespace Go.Proofs.YthcccgbodceeeaaDoor
open Go.RowKit

set_option maxHeartbeats 4000000 in
set_option maxRecDepth 100000 in
theorem pwalk_node (S : Nat → Addr) (w0 : World) (lb mb cb B : Nat) (ls fs : List ByteArray) (zp : List ((Nat × Nat) × List UInt8)) (kc kcut ka kb ks kw b e : Nat) (k : Nat) (P Q A A' : List UInt8) (r1 r2 r : Option (List UInt8 × List UInt8)) (w : World) (hO : PartOld S w0 lb mb cb B ls fs zp) (hE : WalkEnv w0 w cb kc kcut ka kb ks kw) (hz : Looks zp) (hb : b ≤ 400) (he : e ≤ 400) (hl : zp.lookup (b, e) = none) (h2 : 2 ≤ e - b) (hk : spL (e - b) = k)
    (hP0 : P.length = 32) (hQ0 : Q.length = 32) (hA0 : A.length = 32) (hA1 : A'.length = 32) (hr : (if nodeT P Q = nodeT A A' then r1.or r2 else some (nodeT P Q, nodeT A A')) = r)
    (T1 : ∀ W, Below w.heap.size w W → Calls Tryd.prog 23 #[.pointer (some ⟨lb, 0, none⟩), .agg #[.int .u64 (b : Int), .int .u64 ((b : Int) + (k : Int))]] W fun x w' => x = .returned (.tuple #[.agg (Lib.byteCells P).toArray, .nilIface]) ∧ Below W.heap.size W w')
    (T2 : ∀ W, Below w.heap.size w W → Calls Tryd.prog 23 #[.pointer (some ⟨lb, 0, none⟩), .agg #[.int .u64 ((b : Int) + (k : Int)), .int .u64 (e : Int)]] W fun x w' => x = .returned (.tuple #[.agg (Lib.byteCells Q).toArray, .nilIface]) ∧ Below W.heap.size W w')
    (S1 : ∀ W, PartEnv S W lb mb cb B ls fs zp kc kcut ks → Calls Tryd.prog 34 (saysArgs b ((b : Int) + (k : Int)) kc kcut ks) W fun x w' => x = .returned (.agg (Lib.byteCells A).toArray) ∧ Below W.heap.size W w')
    (S2 : ∀ W, PartEnv S W lb mb cb B ls fs zp kc kcut ks → Calls Tryd.prog 34 (saysArgs ((b : Int) + (k : Int)) e kc kcut ks) W fun x w' => x = .returned (.agg (Lib.byteCells A').toArray) ∧ Below W.heap.size W w')
    (W1 : ∀ W, WalkEnv w0 W cb kc kcut ka kb ks kw → Calls Tryd.prog 35 (walkArgs b ((b : Int) + (k : Int)) kc kcut ka kb ks kw) W fun x w' => WalkPost w0 cb kc kcut ka kb ks kw W r1 x w')
    (W2 : ∀ W, WalkEnv w0 W cb kc kcut ka kb ks kw → Calls Tryd.prog 35 (walkArgs ((b : Int) + (k : Int)) e kc kcut ka kb ks kw) W fun x w' => WalkPost w0 cb kc kcut ka kb ks kw W r2 x w') :
    Calls Tryd.prog 35 (walkArgs b e kc kcut ka kb ks kw) w fun x w' => WalkPost w0 cb kc kcut ka kb ks kw w r x w' := by
  have HRR := Lib.hid hr
  have HTP := Lib.hid T1
  have HTPL := Lib.hid hP0
  have HTQ := Lib.hid T2
  have HTQL := Lib.hid hQ0
  have HAL := Lib.hid hA0
  have HAL' := Lib.hid hA1
  have HS1 := Lib.hid S1
  have HS2 := Lib.hid S2
  have HW1 := Lib.hid W1
  have HW2 := Lib.hid W2
  clear hr T1 T2 S1 S2 W1 W2 hP0 hQ0 hA0 hA1
  unfold saysArgs at HS1 HS2
  unfold walkArgs at HW1 HW2
  have HCUT := Lib.hid fun W => (by
    have h := cut_more b e h2 (by omega) W
    unfold spanV at h
    rw [hk, show ((b + k : Nat) : Int) = (b : Int) + (k : Int) by push_cast; rfl] at h
    exact h : Calls Tryd.prog 33 #[.agg #[.int .u64 (b : Int), .int .u64 (e : Int)]] W fun x w' => x = .returned (.tuple #[.agg #[.int .u64 (b : Int), .int .u64 ((b : Int) + (k : Int))], .agg #[.int .u64 ((b : Int) + (k : Int)), .int .u64 (e : Int)], .bool true]) ∧ Below W.heap.size W w')
  clear h2 hk
  obtain ⟨z32, hz32, hzs⟩ := z32_ex
  obtain ⟨zl, hzl, hzv⟩ := zeroHash
  have HXL := Lib.hid hzl
  have hP := hE.part hO
  have HLK := Lib.hid (fun (W : World) (hW : Below w.heap.size w W) => (by
    have h := map_look zl hzv (hP.map.below hW) hz.1 hz.2.1 b e (by omega) (by omega)
    rw [hl] at h
    exact h : (Instr.lookup 58 (.map (some mb)) (spanV b e) true).run Tryd.prog W = .ok (.tuple #[.agg (Lib.byteCells zl).toArray, .bool false]) W))
  unfold spanV at HLK
  obtain ⟨lv, t1, fr1, hrow, _⟩ := hP.row
  obtain ⟨t2, fr2, hkc⟩ := hP.c
  have c0 := cell_of hkc 0 rfl
  have c1 := cell_of hrow 1 rfl
  have HE := Lib.hid hE
  have HO := Lib.hid hO
  clear hE hO hP hz hl hkc hrow hzv
  have hA := heap_one w (.cells #[.int .u64 (b : Int), .int .u64 (e : Int)] 65)
  unfold walkArgs
  go_enter Tryd.func35, Tryd.ntmps35
  go_upto_region 1 with fail
  have hq := below_one w (.cells #[.int .u64 (b : Int), .int .u64 (e : Int)] 65)
  generalize (w.alloc (.cells #[.int .u64 (b : Int), .int .u64 (e : Int)] 65)) = w2 at *
  have c2 := cell_of hA 0 rfl
  have c3 := cell_of hA 1 rfl
  have c0 := below_cell hq c0
  have c1 := below_cell hq c1
  have HQ := Lib.hid hq
  have HZS := Lib.hid hzs
  clear hA hq hzs
  go_cut [9, 10] (fun s9 s10 wx => ∃ g9, s9 = .pointer (some ⟨g9, 0, none⟩) ∧ s10 = .bool false ∧ Below w2.heap.size w2 wx)
  case first =>
    have HK := Lib.hid (fun (W' : World) (hb : Below w2.heap.size w2 W') => (⟨hb, below_cell hb c0, below_cell hb c1, below_cell hb c2, below_cell hb c3, HLK.out W' (HQ.out.trans (hb.mono HQ.out.size))⟩ : Below w2.heap.size w2 W' ∧ W'.cell? ⟨kc, 0, none⟩ = some (.pointer (some ⟨cb, 0, none⟩)) ∧ W'.cell? ⟨cb, 1, none⟩ = some (.map (some mb)) ∧ W'.cell? ⟨w.heap.size, 0, none⟩ = some (.int .u64 (b : Int)) ∧ W'.cell? ⟨w.heap.size, 1, none⟩ = some (.int .u64 (e : Int)) ∧
      (Instr.lookup 58 (.map (some mb)) (.agg #[.int .u64 (b : Int), .int .u64 (e : Int)]) true).run Tryd.prog W' = .ok (.tuple #[.agg (Lib.byteCells zl).toArray, .bool false]) W'))
    have hone := cells_oneC zl
    have hinf : (Tryd.prog.info? 33).map (fun x => x.size) = some (Lib.byteCells zl).length := by rw [Lib.byteCells_length, HXL.out]; exact hashInfo
    have hthr : (w2.alloc (.cells z32 33)).drew.there w2.heap.size 0 (Lib.byteCells zl).length := there_row (show (w2.alloc (.cells z32 33)).drew.heap[w2.heap.size]? = some (.cells z32 33 (0, 0)) from heap_one w2 _) (by rw [Lib.byteCells_length, HXL.out, HZS.out]; exact Nat.le_refl _)
    have HSC := Lib.hid (setCells_row (show (w2.alloc (.cells z32 33)).drew.heap[w2.heap.size]? = some (.cells z32 33 (0, 0)) from heap_one w2 _) HZS.out zl HXL.out)
    have hfb := below_setRow (below_one w2 (.cells z32 33)).drew (Nat.le_refl w2.heap.size) (Lib.byteCells zl).toArray
    rw [← HSC.out] at hfb
    have HFB := Lib.hid hfb
    clear hfb
    go_region_held3 (fun W' => Below w2.heap.size w2 W' ∧ W'.cell? ⟨kc, 0, none⟩ = some (.pointer (some ⟨cb, 0, none⟩)) ∧ W'.cell? ⟨cb, 1, none⟩ = some (.map (some mb)) ∧ W'.cell? ⟨w.heap.size, 0, none⟩ = some (.int .u64 (b : Int)) ∧ W'.cell? ⟨w.heap.size, 1, none⟩ = some (.int .u64 (e : Int)) ∧
      (Instr.lookup 58 (.map (some mb)) (.agg #[.int .u64 (b : Int), .int .u64 (e : Int)]) true).run Tryd.prog W' = .ok (.tuple #[.agg (Lib.byteCells zl).toArray, .bool false]) W')
      (first | exact HK.out _ (below_drewN (Below.refl _ _) 1) | exact HK.out _ ((below_drewN (Below.refl _ _) 1).alloc (by simp) _) | (rw [HSC.out]; exact HK.out _ (below_setRow (below_one w2 _).drew (Nat.le_refl _) _)))
      (first | fail)
    all_goals (go_wp2_with fail; go_meet; exact ⟨_, rfl, rfl, HFB.out⟩)
  case rest =>
    obtain ⟨g9, rfl, rfl, hbc⟩ := hcut
    have HQc := Lib.hid (HQ.out.trans (hbc.mono HQ.out.size))
    have HEc := Lib.hid (HE.out.keep HQc.out)
    have c2 := below_cell hbc c2
    have c3 := below_cell hbc c3
    have lws := lt_of_cell c2
    clear hbc c0 c1
    obtain ⟨t4, fr4, hcut4⟩ := HEc.out.cut
    have c4 := cell_of hcut4 0 rfl
    clear hcut4
    go_upto_region 9 with (go_at_call 33; refine (HCUT.out wc).mono ?_; first | (rintro x wd rfl hbd) | (rintro x wd ⟨rfl, hbd⟩))
    obtain ⟨t1, t2, t3⟩ := two_new wd #[.int .u64 (b : Int), .int .u64 ((b : Int) + (k : Int))] #[.int .u64 ((b : Int) + (k : Int)), .int .u64 (e : Int)] 65 65
    have hbf := hbd.trans (t3.mono hbd.size)
    have hgl : wc.heap.size ≤ wd.heap.size := hbd.size
    generalize (wd.alloc (.cells #[.int .u64 (b : Int), .int .u64 ((b : Int) + (k : Int))] 65)).alloc (.cells #[.int .u64 ((b : Int) + (k : Int)), .int .u64 (e : Int)] 65) = wf at *
    have HQ9 := Lib.hid (HQc.out.trans (hbf.mono HQc.out.size))
    clear hbd
    generalize wd.heap.size = gl at *
    have HE9 := Lib.hid (HEc.out.keep hbf)
    have hP9 := HE9.out.part HO.out
    obtain ⟨t5, fr5, hkc5⟩ := hP9.c
    have c0 := cell_of hkc5 0 rfl
    obtain ⟨lv, t6, fr6, hrow6, _⟩ := hP9.row
    have d0 := cell_of hrow6 0 rfl
    have e1 := cell_of t1 0 rfl
    have e2 := cell_of t1 1 rfl
    have e3 := cell_of t2 0 rfl
    have e4 := cell_of t2 1 rfl
    have HG := Lib.hid (show w.heap.size ≤ gl from Nat.le_trans HQc.out.size hgl)
    have HT1 := Lib.hid t1
    have HT2 := Lib.hid t2
    clear t1 t2 t3 hbf hkc5 hrow6 hP9 c2 c3 c4 lws hgl
    go_cut [16, 17] (fun s1 s2 wx => ∃ g, s1 = .pointer (some ⟨g, 0, none⟩) ∧ s2 = .nilIface ∧ wx.heap[g]? = some (.cells (Lib.byteCells P).toArray 33 (0, 0)) ∧ wf.heap.size ≤ g ∧ Below wf.heap.size wf wx)
    case first =>
      have HK := Lib.hid (fun (W' : World) (hb : Below wf.heap.size wf W') => (⟨hb, below_cell hb c0, below_cell hb d0, below_cell hb e1, below_cell hb e2⟩ : Below wf.heap.size wf W' ∧ W'.cell? ⟨kc, 0, none⟩ = some (.pointer (some ⟨cb, 0, none⟩)) ∧ W'.cell? ⟨cb, 0, none⟩ = some (.pointer (some ⟨lb, 0, none⟩)) ∧ W'.cell? ⟨gl, 0, none⟩ = some (.int .u64 (b : Int)) ∧ W'.cell? ⟨gl, 1, none⟩ = some (.int .u64 ((b : Int) + (k : Int)))))
      have hone := cells_oneC P
      have hinf : (Tryd.prog.info? 33).map (fun x => x.size) = some (Lib.byteCells P).length := by rw [Lib.byteCells_length, HTPL.out]; exact hashInfo
      go_region_held3 (fun W' => Below wf.heap.size wf W' ∧ W'.cell? ⟨kc, 0, none⟩ = some (.pointer (some ⟨cb, 0, none⟩)) ∧ W'.cell? ⟨cb, 0, none⟩ = some (.pointer (some ⟨lb, 0, none⟩)) ∧ W'.cell? ⟨gl, 0, none⟩ = some (.int .u64 (b : Int)) ∧ W'.cell? ⟨gl, 1, none⟩ = some (.int .u64 ((b : Int) + (k : Int))))
        (first | exact HK.out _ (below_drewN (Below.refl _ _) 1) | exact HK.out _ (below_one wf _).drew | exact HK.out _ hb3 | exact HK.out _ (hb3.alloc hb3.size _) | (rw [hsc]; exact HK.out _ hsb))
        (first
          | (go_at_call 23; refine (HTP.out _ (HQ9.out.trans ((below_drewN (Below.refl wf.heap.size wf) 1).mono HQ9.out.size))).mono ?_; rintro x w3 ⟨rfl, b3⟩; have hb3 : Below wf.heap.size wf w3 := (below_drewN (Below.refl _ _) 1).trans b3; have hr3 := heap_one w3 (.cells z32 33); have hthr : (w3.alloc (.cells z32 33)).there w3.heap.size 0 (Lib.byteCells P).length := there_row hr3 (by rw [Lib.byteCells_length, HTPL.out, HZS.out]; exact Nat.le_refl _); have hsc := setCells_row hr3 HZS.out P HTPL.out; have hsr := setRow_heap (w3.alloc (.cells z32 33)) w3.heap.size _ (Lib.byteCells P).toArray 33 (0, 0) hr3; have hsb := below_setRow (hb3.alloc hb3.size (.cells z32 33)) hb3.size (Lib.byteCells P).toArray; have hsg : wf.heap.size ≤ w3.heap.size := hb3.size)
          | (go_at_call 23; refine (HTP.out _ (HQ9.out.trans ((below_one wf _).drew.mono HQ9.out.size))).mono ?_; rintro x w3 ⟨rfl, b3⟩; have hb3 : Below wf.heap.size wf w3 := (below_one wf _).drew.trans (b3.mono (below_one wf _).drew.size); have hr3 : w3.heap[wf.heap.size]? = some (.cells z32 33 (0, 0)) := below_heap b3 (heap_one wf _); have hthr : w3.there wf.heap.size 0 (Lib.byteCells P).length := there_row hr3 (by rw [Lib.byteCells_length, HTPL.out, HZS.out]; exact Nat.le_refl _); have hsc := setCells_row hr3 HZS.out P HTPL.out; have hsr := setRow_heap w3 wf.heap.size _ (Lib.byteCells P).toArray 33 (0, 0) hr3; have hsb := below_setRow hb3 (Nat.le_refl _) (Lib.byteCells P).toArray; have hsg : wf.heap.size ≤ wf.heap.size := Nat.le_refl _))
      all_goals (go_wp2_with fail; go_meet; exact ⟨_, rfl, rfl, by rw [hsc]; exact hsr, hsg, by rw [hsc]; exact hsb⟩)
    case rest =>
    obtain ⟨g16, rfl, rfl, hg16, hgg16, hbn⟩ := hcut
    have HQ10 := Lib.hid (HQ9.out.trans (hbn.mono HQ9.out.size))
    have HE10 := Lib.hid (HE9.out.keep hbn)
    have c0 := below_cell hbn c0
    have d0 := below_cell hbn d0
    have e3 := below_cell hbn e3
    have e4 := below_cell hbn e4
    have HT1 := Lib.hid (below_heap hbn HT1.out)
    have HT2 := Lib.hid (below_heap hbn HT2.out)
    have H16 := Lib.hid hg16
    have HG16 := Lib.hid (show w.heap.size ≤ g16 from Nat.le_trans HQ9.out.size hgg16)
    clear hg16 hgg16 hbn e1 e2
    go_upto_region 10 with fail
    go_cut [18, 19] (fun s1 s2 wx => ∃ g, s1 = .pointer (some ⟨g, 0, none⟩) ∧ s2 = .nilIface ∧ wx.heap[g]? = some (.cells (Lib.byteCells Q).toArray 33 (0, 0)) ∧ wc.heap.size ≤ g ∧ Below wc.heap.size wc wx)
    case first =>
      have HK := Lib.hid (fun (W' : World) (hb : Below wc.heap.size wc W') => (⟨hb, below_cell hb c0, below_cell hb d0, below_cell hb e3, below_cell hb e4⟩ : Below wc.heap.size wc W' ∧ W'.cell? ⟨kc, 0, none⟩ = some (.pointer (some ⟨cb, 0, none⟩)) ∧ W'.cell? ⟨cb, 0, none⟩ = some (.pointer (some ⟨lb, 0, none⟩)) ∧ W'.cell? ⟨gl + 1, 0, none⟩ = some (.int .u64 ((b : Int) + (k : Int))) ∧ W'.cell? ⟨gl + 1, 1, none⟩ = some (.int .u64 (e : Int))))
      have hone := cells_oneC Q
      have hinf : (Tryd.prog.info? 33).map (fun x => x.size) = some (Lib.byteCells Q).length := by rw [Lib.byteCells_length, HTQL.out]; exact hashInfo
      go_region_held3 (fun W' => Below wc.heap.size wc W' ∧ W'.cell? ⟨kc, 0, none⟩ = some (.pointer (some ⟨cb, 0, none⟩)) ∧ W'.cell? ⟨cb, 0, none⟩ = some (.pointer (some ⟨lb, 0, none⟩)) ∧ W'.cell? ⟨gl + 1, 0, none⟩ = some (.int .u64 ((b : Int) + (k : Int))) ∧ W'.cell? ⟨gl + 1, 1, none⟩ = some (.int .u64 (e : Int)))
        (first | exact HK.out _ (below_drewN (Below.refl _ _) 1) | exact HK.out _ (below_one wc _).drew | exact HK.out _ hb3 | exact HK.out _ (hb3.alloc hb3.size _) | (rw [hsc]; exact HK.out _ hsb))
        (first
          | (go_at_call 23; refine (HTQ.out _ (HQ10.out.trans ((below_drewN (Below.refl wc.heap.size wc) 1).mono HQ10.out.size))).mono ?_; rintro x w3 ⟨rfl, b3⟩; have hb3 : Below wc.heap.size wc w3 := (below_drewN (Below.refl _ _) 1).trans b3; have hr3 := heap_one w3 (.cells z32 33); have hthr : (w3.alloc (.cells z32 33)).there w3.heap.size 0 (Lib.byteCells Q).length := there_row hr3 (by rw [Lib.byteCells_length, HTQL.out, HZS.out]; exact Nat.le_refl _); have hsc := setCells_row hr3 HZS.out Q HTQL.out; have hsr := setRow_heap (w3.alloc (.cells z32 33)) w3.heap.size _ (Lib.byteCells Q).toArray 33 (0, 0) hr3; have hsb := below_setRow (hb3.alloc hb3.size (.cells z32 33)) hb3.size (Lib.byteCells Q).toArray; have hsg : wc.heap.size ≤ w3.heap.size := hb3.size)
          | (go_at_call 23; refine (HTQ.out _ (HQ10.out.trans ((below_one wc _).drew.mono HQ10.out.size))).mono ?_; rintro x w3 ⟨rfl, b3⟩; have hb3 : Below wc.heap.size wc w3 := (below_one wc _).drew.trans (b3.mono (below_one wc _).drew.size); have hr3 : w3.heap[wc.heap.size]? = some (.cells z32 33 (0, 0)) := below_heap b3 (heap_one wc _); have hthr : w3.there wc.heap.size 0 (Lib.byteCells Q).length := there_row hr3 (by rw [Lib.byteCells_length, HTQL.out, HZS.out]; exact Nat.le_refl _); have hsc := setCells_row hr3 HZS.out Q HTQL.out; have hsr := setRow_heap w3 wc.heap.size _ (Lib.byteCells Q).toArray 33 (0, 0) hr3; have hsb := below_setRow hb3 (Nat.le_refl _) (Lib.byteCells Q).toArray; have hsg : wc.heap.size ≤ wc.heap.size := Nat.le_refl _))
      all_goals (go_wp2_with fail; go_meet; exact ⟨_, rfl, rfl, by rw [hsc]; exact hsr, hsg, by rw [hsc]; exact hsb⟩)
    case rest =>
    obtain ⟨g18, rfl, rfl, hg18, hgg18, hbn⟩ := hcut
    have HQ11 := Lib.hid (HQ10.out.trans (hbn.mono HQ10.out.size))
    have HE11 := Lib.hid (HE10.out.keep hbn)
    have HT1 := Lib.hid (below_heap hbn HT1.out)
    have HT2 := Lib.hid (below_heap hbn HT2.out)
    have H16 := Lib.hid (below_heap hbn H16.out)
    have H18 := Lib.hid hg18
    have HG18 := Lib.hid (show w.heap.size ≤ g18 from Nat.le_trans HQ10.out.size hgg18)
    clear hg18 hgg18 hbn e3 e4 c0 d0 hz32
    go_upto_region 11 with fail
    obtain ⟨t7, fr7, hks⟩ := HE11.out.says
    have k0 := cell_of hks 0 rfl
    have l0 := lt_of_heap hks
    have e1 := cell_of HT1.out 0 rfl
    have e2 := cell_of HT1.out 1 rfl
    have l1 := lt_of_heap HT1.out
    have e3 := cell_of HT2.out 0 rfl
    have e4 := cell_of HT2.out 1 rfl
    have l2 := lt_of_heap HT2.out
    obtain ⟨X, hX⟩ : ∃ X, textS P Q = X := ⟨_, rfl⟩
    obtain ⟨Y, hY⟩ : ∃ Y, textS A A' = Y := ⟨_, rfl⟩
    have HX := Lib.hid (show bs X = nodeT P Q by rw [← hX]; exact bs_text P Q)
    have HY := Lib.hid (show bs Y = nodeT A A' by rw [← hY]; exact bs_text A A')
    have HTX := Lib.hid (fun W => (by
      have h := text_any P Q HTPL.out HTQL.out W
      rw [hX] at h
      exact h : Calls Tryd.prog 31 #[.agg (Lib.byteCells P).toArray, .agg (Lib.byteCells Q).toArray] W fun e w' => e = .returned (.string X) ∧ Below W.heap.size W w'))
    have HTY := Lib.hid (fun W => (by
      have h := text_any A A' HAL.out HAL'.out W
      rw [hY] at h
      exact h : Calls Tryd.prog 31 #[.agg (Lib.byteCells A).toArray, .agg (Lib.byteCells A').toArray] W fun e w' => e = .returned (.string Y) ∧ Below W.heap.size W w'))
    clear hks hX hY
    refine wp_region_kept_tail 10 (by kernel_rfl) (by kernel_rfl) ?_
    simp only [List.take_succ_cons, List.take_zero, List.drop_succ_cons, List.drop_zero]
    refine wpQuiet_hashLoad (by rfl) (.tmp 16) (by rfl) g16 0 (by rfl) P HTPL.out (range_row H16.out) ?_
    simp only [Act.put, List.setIfInBounds_toArray, List.set_cons_zero, List.set_cons_succ]
    refine wpQuiet_hashLoad (by rfl) (.tmp 18) (by rfl) g18 0 (by rfl) Q HTQL.out (range_row H18.out) ?_
    simp only [Act.put, List.setIfInBounds_toArray, List.set_cons_zero, List.set_cons_succ]
    go_big_quiet_step ((go_at_call 31; rename Kept _ => x; exact Kept.call (HTX.out x.w)))
    iterate 2 go_big_quiet_step (fail)
    go_big_quiet_step ((go_at_call 34; rename Kept _ => x; exact Kept.call (HS1.out x.w ((HE11.out.part HO.out).below x.below))))
    iterate 2 go_big_quiet_step (fail)
    go_big_quiet_step ((go_at_call 34; rename Kept _ => x; exact Kept.call (HS2.out x.w ((HE11.out.part HO.out).below x.below))))
    go_big_quiet_step ((go_at_call 31; rename Kept _ => x; exact Kept.call (HTY.out x.w)))
    refine wpQuiet_nil ?_
    intro x
    have HQX := Lib.hid (HQ11.out.trans (x.below.mono HQ11.out.size))
    have HEX := Lib.hid (HE11.out.keep x.below)
    have HT1 := Lib.hid (below_heap x.below HT1.out)
    have HT2 := Lib.hid (below_heap x.below HT2.out)
    clear k0 l0 e1 e2 l1 e3 e4 l2
    generalize x.w = wX at *
    obtain ⟨sa, ha⟩ := HEX.out.a
    obtain ⟨sb, hb'⟩ := HEX.out.b
    have a0 := cell_of ha 0 rfl
    have a1 := frozen_row ha 0
    have b0 := cell_of hb' 0 rfl
    have b1 := frozen_row hb' 0
    have q5 : kb ≠ ka := fun e => HEX.out.nab e.symm
    clear ha hb'
    go_upto_region 12 with fail
    have HSET := Lib.hid (HEX.out.set X Y)
    have HN1 := Lib.hid (show gl ≠ ka ∧ gl ≠ kb by
      obtain ⟨s, h⟩ := HE.out.a
      obtain ⟨s', h'⟩ := HE.out.b
      have := lt_of_heap h
      have := lt_of_heap h'
      have := HG.out
      omega)
    have HN2 := Lib.hid (show gl + 1 ≠ ka ∧ gl + 1 ≠ kb by
      obtain ⟨s, h⟩ := HE.out.a
      obtain ⟨s', h'⟩ := HE.out.b
      have := lt_of_heap h
      have := lt_of_heap h'
      have := HG.out
      omega)
    clear a0 a1 b0 b1 q5
    generalize (wX.setCell ⟨ka, 0, none⟩ (.string X)).setCell ⟨kb, 0, none⟩ (.string Y) = wS at *
    have HABS := Lib.hid ((AB.of_below HQX.out).trans HSET.out.2.2.2)
    have HT1 := Lib.hid (HSET.out.2.2.2.heap HT1.out HN1.out.1 HN1.out.2)
    have HT2 := Lib.hid (HSET.out.2.2.2.heap HT2.out HN2.out.1 HN2.out.2)
    have e0 := cell_of HSET.out.2.1 0 rfl
    have e1 := cell_of HSET.out.2.2.1 0 rfl
    by_cases hxy : X = Y
    · have HR := Lib.hid (show r = r1.or r2 by rw [← HRR.out, if_pos (by rw [← HX.out, ← HY.out, hxy])])
      subst hxy
      obtain ⟨t8, fr8, hkw⟩ := HSET.out.1.walk
      have k0 := cell_of hkw 0 rfl
      have s0 := cell_of HT1.out 0 rfl
      have s1 := cell_of HT1.out 1 rfl
      clear hkw
      cases r1 with
      | some z =>
        go_wp2_with (go_at_call 35; refine (HW1.out wS HSET.out.1).mono ?_)
        rintro x' w6 ⟨rfl, hp6, hE6, hab6⟩
        have HP6 := Lib.hid hp6
        have HE6 := Lib.hid hE6
        have HAB6 := Lib.hid (HABS.out.trans hab6)
        clear hp6 hE6 hab6 e0 e1 k0 s0 s1
        simp only [Option.isSome_some]
        go_wp2_with fail
        go_ret
        rw [HR.out]
        exact ⟨rfl, fun p q h => HP6.out p q (by simpa using h), HE6.out, HAB6.out⟩
      | none =>
        go_wp2_with (go_at_call 35; refine (HW1.out wS HSET.out.1).mono ?_)
        rintro x' w6 ⟨rfl, _, hE6, hab6⟩
        have HE6 := Lib.hid hE6
        have HAB6 := Lib.hid (HABS.out.trans hab6)
        have HT26 := Lib.hid (hab6.heap HT2.out HN2.out.1 HN2.out.2)
        clear e0 e1 k0 s0 s1
        obtain ⟨t9, fr9, hkw⟩ := hE6.walk
        have k0 := cell_of hkw 0 rfl
        have s0 := cell_of HT26.out 0 rfl
        have s1 := cell_of HT26.out 1 rfl
        clear hkw hE6 hab6
        simp only [Option.isSome_none]
        go_wp2_with (go_at_call 35; refine (HW2.out w6 HE6.out).mono ?_)
        rintro x' w7 ⟨rfl, hp7, hE7, hab7⟩
        have HP7 := Lib.hid hp7
        have HE7 := Lib.hid hE7
        have HAB7 := Lib.hid (HAB6.out.trans hab7)
        clear hp7 hE7 hab7 k0 s0 s1
        go_wp2_with fail
        go_ret
        rw [HR.out]
        exact ⟨by simp, fun p q h => HP7.out p q (by simpa using h), HE7.out, HAB7.out⟩
    · have hxe := list_ne hxy
      have HR := Lib.hid (show r = some (nodeT P Q, nodeT A A') by rw [← HRR.out, if_neg (fun h => hxy (bs_inj (by rw [HX.out, HY.out, h])))])
      go_wp2_with fail
      go_ret
      rw [HR.out]
      refine ⟨rfl, fun p q h => ?_, HSET.out.1, HABS.out⟩
      simp only [Option.some.injEq, Prod.mk.injEq] at h
      exact ⟨X, Y, HSET.out.2.1, HSET.out.2.2.1, by rw [HX.out, h.1], by rw [HY.out, h.2]⟩
end Go.Proofs.YthcccgbodceeeaaDoor
