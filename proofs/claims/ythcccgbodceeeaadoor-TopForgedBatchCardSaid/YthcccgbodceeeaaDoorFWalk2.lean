/-
  forge's closure walk at a leaf.
-/
import Derived.Test.YthcccgbodceeeaaDoorFWalk
namespace Go.Proofs.YthcccgbodceeeaaDoor
open Go.RowKit

theorem bs_leaf (s : ByteArray) : bs (({ data := #[0] } : ByteArray) ++ s) = leafT (bs s) := by simp [bs, leafT]
theorem list_ne {x y : ByteArray} (h : ¬ x = y) : (x.toList == y.toList) = false := by
  rw [beq_eq_false_iff_ne, ByteArray.toList_eq, ByteArray.toList_eq]
  intro e
  apply h
  cases x
  cases y
  exact congrArg ByteArray.mk (Array.toList_inj.1 e)
theorem bs_inj {x y : ByteArray} (h : bs x = bs y) : x = y := by
  cases x
  cases y
  simp only [bs] at h
  rw [Array.toList_inj.1 h]
set_option maxHeartbeats 2000000 in
set_option maxRecDepth 100000 in
theorem pwalk_leaf (S : Nat → Addr) (w0 : World) (lb mb cb B : Nat) (ls fs : List ByteArray) (zp : List ((Nat × Nat) × List UInt8)) (kc kcut ka kb ks kw b e : Nat) (i : Nat) (s s' : ByteArray) (w : World) (hO : PartOld S w0 lb mb cb B ls fs zp) (hE : WalkEnv w0 w cb kc kcut ka kb ks kw) (hz : Looks zp) (hb : b ≤ 400) (he : e ≤ ls.length) (hl4 : ls.length ≤ 400) (hl : zp.lookup (b, e) = none) (hbe : b < e) (h2 : e - b < 2) (hbi : b = B + i) (hi : fs[i]? = some s') (hs' : s'.size ≤ 140737488355327) (hls : ls[b]? = some s) (hs : s.size ≤ 65536) (r : Option (List UInt8 × List UInt8)) (hr : (if leafT (bs s) = leafT (bs s') then none else some (leafT (bs s), leafT (bs s'))) = r) :
    Calls Tryd.prog 35 (walkArgs b e kc kcut ka kb ks kw) w fun x w' => WalkPost w0 cb kc kcut ka kb ks kw w r x w' := by
  have HRR := Lib.hid hr
  clear hr
  have HLF := Lib.hid fun (W : World) (hbw : Below w.heap.size w W) => (by
    have h := leaf_log S lb ls b W ((hE.part hO).log.below hbw) (by omega) ((hE.part hO).fw.below hbw)
    rw [if_pos (by omega), show ls.getD b ⟨#[]⟩ = s by rw [List.getD_eq_getElem?_getD, hls]; rfl] at h
    exact h : Calls Tryd.prog 18 #[.pointer (some ⟨lb, 0, none⟩), .int .u64 (b : Int)] W fun e w' => e = .returned (.tuple #[.string s, .nilIface]) ∧ Below W.heap.size W w')
  have HCUT := Lib.hid fun W => (by
    have h := cut_leaf b e (by omega) (by omega) (by omega) W
    unfold spanV at h
    exact h : Calls Tryd.prog 33 #[.agg #[.int .u64 (b : Int), .int .u64 (e : Int)]] W fun x w' => x = .returned (.tuple #[.agg #[.int .u64 (b : Int), .int .u64 (b : Int)], .agg #[.int .u64 (b : Int), .int .u64 (e : Int)], .bool false]) ∧ Below W.heap.size W w')
  have HI := Lib.hid (show IntKind.u64.wrap ((b : Int) - (B : Int)) = (i : Int) ∧ (0 : Int) ≤ (i : Int) ∧ (i : Int) < (fs.length : Int) by
    have := (List.getElem?_eq_some_iff.1 hi).1
    rw [IntKind.wrap_u64]
    omega)
  have HIS := Lib.hid hi
  have HSZ := Lib.hid (And.intro hs hs')
  have he : e ≤ 400 := by omega
  clear hbi hi hs hs' hbe h2 hls
  obtain ⟨z32, hz32, hzs⟩ := z32_ex
  obtain ⟨zl, hzl, hzv⟩ := zeroHash
  have HXL := Lib.hid hzl
  have hP := hE.part hO
  have HLK := Lib.hid (fun (W : World) (hW : Below w.heap.size w W) => (by
    have h := map_look zl hzv (hP.map.below hW) hz.1 hz.2.1 b e (by omega) (by omega)
    rw [hl] at h
    exact h : (Instr.lookup 58 (.map (some mb)) (spanV b e) true).run Tryd.prog W = .ok (.tuple #[.agg (Lib.byteCells zl).toArray, .bool false]) W))
  unfold spanV at HLK
  obtain ⟨lv, t1, fr1, hrow, _⟩ := hP.row
  obtain ⟨t2, fr2, hkc⟩ := hP.c
  have c0 := cell_of hkc 0 rfl
  have c1 := cell_of hrow 1 rfl
  have HE := Lib.hid hE
  have HO := Lib.hid hO
  clear hE hO hP hz hl hkc hrow hzv
  have hA := heap_one w (.cells #[.int .u64 (b : Int), .int .u64 (e : Int)] 65)
  unfold walkArgs
  go_enter Tryd.func35, Tryd.ntmps35
  go_upto_region 1 with fail
  have hq := below_one w (.cells #[.int .u64 (b : Int), .int .u64 (e : Int)] 65)
  generalize (w.alloc (.cells #[.int .u64 (b : Int), .int .u64 (e : Int)] 65)) = w2 at *
  have c2 := cell_of hA 0 rfl
  have c3 := cell_of hA 1 rfl
  have c0 := below_cell hq c0
  have c1 := below_cell hq c1
  have HQ := Lib.hid hq
  have HZS := Lib.hid hzs
  clear hA hq hzs
  go_cut [9, 10] (fun s9 s10 wx => ∃ g9, s9 = .pointer (some ⟨g9, 0, none⟩) ∧ s10 = .bool false ∧ Below w2.heap.size w2 wx)
  case first =>
    have HK := Lib.hid (fun (W' : World) (hb : Below w2.heap.size w2 W') => (⟨hb, below_cell hb c0, below_cell hb c1, below_cell hb c2, below_cell hb c3, HLK.out W' (HQ.out.trans (hb.mono HQ.out.size))⟩ : Below w2.heap.size w2 W' ∧ W'.cell? ⟨kc, 0, none⟩ = some (.pointer (some ⟨cb, 0, none⟩)) ∧ W'.cell? ⟨cb, 1, none⟩ = some (.map (some mb)) ∧ W'.cell? ⟨w.heap.size, 0, none⟩ = some (.int .u64 (b : Int)) ∧ W'.cell? ⟨w.heap.size, 1, none⟩ = some (.int .u64 (e : Int)) ∧
      (Instr.lookup 58 (.map (some mb)) (.agg #[.int .u64 (b : Int), .int .u64 (e : Int)]) true).run Tryd.prog W' = .ok (.tuple #[.agg (Lib.byteCells zl).toArray, .bool false]) W'))
    have hone := cells_oneC zl
    have hinf : (Tryd.prog.info? 33).map (fun x => x.size) = some (Lib.byteCells zl).length := by rw [Lib.byteCells_length, HXL.out]; exact hashInfo
    have hthr : (w2.alloc (.cells z32 33)).drew.there w2.heap.size 0 (Lib.byteCells zl).length := there_row (show (w2.alloc (.cells z32 33)).drew.heap[w2.heap.size]? = some (.cells z32 33 (0, 0)) from heap_one w2 _) (by rw [Lib.byteCells_length, HXL.out, HZS.out]; exact Nat.le_refl _)
    have HSC := Lib.hid (setCells_row (show (w2.alloc (.cells z32 33)).drew.heap[w2.heap.size]? = some (.cells z32 33 (0, 0)) from heap_one w2 _) HZS.out zl HXL.out)
    have hfb := below_setRow (below_one w2 (.cells z32 33)).drew (Nat.le_refl w2.heap.size) (Lib.byteCells zl).toArray
    rw [← HSC.out] at hfb
    have HFB := Lib.hid hfb
    clear hfb
    go_region_held3 (fun W' => Below w2.heap.size w2 W' ∧ W'.cell? ⟨kc, 0, none⟩ = some (.pointer (some ⟨cb, 0, none⟩)) ∧ W'.cell? ⟨cb, 1, none⟩ = some (.map (some mb)) ∧ W'.cell? ⟨w.heap.size, 0, none⟩ = some (.int .u64 (b : Int)) ∧ W'.cell? ⟨w.heap.size, 1, none⟩ = some (.int .u64 (e : Int)) ∧
      (Instr.lookup 58 (.map (some mb)) (.agg #[.int .u64 (b : Int), .int .u64 (e : Int)]) true).run Tryd.prog W' = .ok (.tuple #[.agg (Lib.byteCells zl).toArray, .bool false]) W')
      (first | exact HK.out _ (below_drewN (Below.refl _ _) 1) | exact HK.out _ ((below_drewN (Below.refl _ _) 1).alloc (by simp) _) | (rw [HSC.out]; exact HK.out _ (below_setRow (below_one w2 _).drew (Nat.le_refl _) _)))
      (first | fail)
    all_goals (go_wp2_with fail; go_meet; exact ⟨_, rfl, rfl, HFB.out⟩)
  case rest =>
    obtain ⟨g9, rfl, rfl, hbc⟩ := hcut
    have HQc := Lib.hid (HQ.out.trans (hbc.mono HQ.out.size))
    have HEc := Lib.hid (HE.out.keep HQc.out)
    have c2 := below_cell hbc c2
    have c3 := below_cell hbc c3
    have lws := lt_of_cell c2
    clear hbc c0 c1 hz32
    obtain ⟨t4, fr4, hcut4⟩ := HEc.out.cut
    have c4 := cell_of hcut4 0 rfl
    clear hcut4
    go_upto_region 6 with (go_at_call 33; refine (HCUT.out wc).mono ?_; first | (rintro x wd rfl hbd) | (rintro x wd ⟨rfl, hbd⟩))
    obtain ⟨t1, t2, t3⟩ := two_new wd #[.int .u64 (b : Int), .int .u64 (b : Int)] #[.int .u64 (b : Int), .int .u64 (e : Int)] 65 65
    have hbf := hbd.trans (t3.mono hbd.size)
    generalize (wd.alloc (.cells #[.int .u64 (b : Int), .int .u64 (b : Int)] 65)).alloc (.cells #[.int .u64 (b : Int), .int .u64 (e : Int)] 65) = wf at *
    have HQf := Lib.hid (HQc.out.trans (hbf.mono HQc.out.size))
    have HEf := Lib.hid (HEc.out.keep hbf)
    have c2 := below_cell hbf c2
    have lws := lt_of_cell c2
    have hPf := HEf.out.part HO.out
    obtain ⟨t5, fr5, hkc5⟩ := hPf.c
    have c0 := cell_of hkc5 0 rfl
    have l0 := lt_of_heap hkc5
    obtain ⟨lv, t6, fr6, hrow6, _⟩ := hPf.row
    have d0 := cell_of hrow6 0 rfl
    have l1 := lt_of_heap hrow6
    clear hbd t1 t2 t3 hbf hkc5 hrow6 c3 c4 hPf
    refine wp_region_kept (by kernel_rfl) (by kernel_rfl) ?_
    iterate 6 go_big_quiet_step (fail)
    go_big_quiet_step ((go_at_call 18; rename Kept _ => x; exact Kept.call (HLF.out x.w (HQf.out.trans (x.below.mono HQf.out.size)))))
    iterate 5 go_big_quiet_step (fail)
    refine wpQuiet_nil ?_
    intro x
    have HQg := Lib.hid (HQf.out.trans (x.below.mono HQf.out.size))
    have HEg := Lib.hid (HEf.out.keep x.below)
    have c2 := below_cell x.below c2
    have c0 := below_cell x.below c0
    generalize x.w = wg at *
    clear d0 l0 l1 lws
    go_upto_region 7 with fail
    obtain ⟨lv, t6, fr6, hrow0, ao, cap, rfl, hstr⟩ := HO.out.row
    obtain ⟨g, o, rfl, hrg⟩ := hstr (fun e => by have := HIS.out; rw [e] at this; simp at this)
    have hrow6 := below_heap HEg.out.bel hrow0
    have d2 := cell_of hrow6 2 rfl
    have d3 := cell_of hrow6 3 rfl
    have d40 := hrg i (.string s') (by rw [List.getElem?_map, HIS.out]; rfl)
    have d4 := below_cell HEg.out.bel d40
    have lga := HEg.out.ga
    have lgb := HEg.out.gb
    have lcb := lt_of_heap hrow0
    have lgg := lt_of_cell d40
    have q1 : kc ≠ ka := HEg.out.nc.1
    have q2 : cb ≠ ka := by omega
    have q3 : g ≠ ka := by simp at lgg; omega
    have q4 : w.heap.size ≠ ka := by obtain ⟨s, h⟩ := HE.out.a; have := lt_of_heap h; omega
    have q5 : kb ≠ ka := fun e => HEg.out.nab e.symm
    obtain ⟨sa, ha⟩ := HEg.out.a
    obtain ⟨sb, hb'⟩ := HEg.out.b
    have a0 := cell_of ha 0 rfl
    have a1 := frozen_row ha 0
    have b0 := cell_of hb' 0 rfl
    have b1 := frozen_row hb' 0
    have g1 : ¬ (9223372036854775807 : Int) < 1 + (s.size : Int) := by have := HSZ.out; omega
    have g2 : ¬ (9223372036854775807 : Int) < 1 + (s'.size : Int) := by have := HSZ.out; omega
    obtain ⟨hi3, hi4, hi5⟩ := HI.out
    clear hrow0 hrow6 hstr hrg ha hb' d40 lga lgb lcb lgg
    go_region
    obtain ⟨x, hx⟩ : ∃ x, (({ data := #[0] } : ByteArray) ++ s) = x := ⟨_, rfl⟩
    obtain ⟨y, hy⟩ : ∃ y, (({ data := #[0] } : ByteArray) ++ s') = y := ⟨_, rfl⟩
    have HX := Lib.hid (show bs x = leafT (bs s) by rw [← hx]; exact bs_leaf s)
    have HY := Lib.hid (show bs y = leafT (bs s') by rw [← hy]; exact bs_leaf s')
    rw [hx, hy]
    have HSET := Lib.hid (HEg.out.set x y)
    have hab := HSET.out.2.2.2
    have e0 := cell_of HSET.out.2.1 0 rfl
    have e1 := cell_of HSET.out.2.2.1 0 rfl
    clear hx hy c0 c2 d2 d3 d4 a0 a1 b0 b1 g1 g2 q1 q2 q3 q4 q5 hi3 hi4 hi5
    generalize (wg.setCell ⟨ka, 0, none⟩ (.string x)).setCell ⟨kb, 0, none⟩ (.string y) = wS at *
    have HAB := Lib.hid ((AB.of_below HQg.out).trans hab)
    clear hab
    by_cases hxy : x = y
    · subst hxy
      have HR := Lib.hid (show r = none by rw [← HRR.out, ← HX.out, ← HY.out, if_pos rfl])
      go_wp2_with fail
      go_ret
      rw [HR.out]
      exact ⟨rfl, fun _ _ h => by (cases h), HSET.out.1.keep (Below.refl _ _).drew, HAB.out.drew⟩
    · have hxe := list_ne hxy
      have HR := Lib.hid (show r = some (leafT (bs s), leafT (bs s')) by rw [← HRR.out, if_neg (fun h => hxy (bs_inj (by rw [HX.out, HY.out, h])))])
      go_wp2_with fail
      go_ret
      rw [HR.out]
      refine ⟨rfl, fun p q h => ?_, HSET.out.1.keep (Below.refl _ _).drew, HAB.out.drew⟩
      simp only [Option.some.injEq, Prod.mk.injEq] at h
      exact ⟨x, y, HSET.out.2.1, HSET.out.2.2.1, by rw [HX.out, h.1], by rw [HY.out, h.2]⟩
end Go.Proofs.YthcccgbodceeeaaDoor
