/-
  SHA-256: Write whatever is written; New; (*sha.Digest).Copy by its contract.
-/
import Derived.Test.YthcccgbodceeeaaDoorSha3
import Derived.Laws.Rows
namespace Go.Proofs.YthcccgbodceeeaaDoor
open Go.RowKit

theorem write_any' (B d hb : Nat) (rv : Value) (m l : List UInt8) (b o cap : Nat) (w : World) (hD : Dig B w d hb rv m) (hr : w.rangeAt b o (Lib.byteCells l)) (hcap : l.length ≤ cap) (hbd : b ≠ d) (hbh : b ≠ hb) (hbr : rv.ownBlock ≠ some b) (hBw : B ≤ w.heap.size) (hbw : b < w.heap.size)
    (htab : TabSha w) (hgB : 5 < B) (hsz : m.length + l.length ≤ 4611686018427387904) :
    Calls Tryd.prog 39 #[.pointer (some ⟨d, 0, none⟩), .slice (some ⟨b, o, none⟩) l.length cap] w fun e w' => e = .returned (.tuple #[]) ∧ ∃ rv', Dig B w' d hb rv' (m ++ l) ∧ Below B w w' := by
  by_cases h : 0 < m.length % 64 ∧ m.length % 64 + l.length < 64
  · exact write_few B d hb rv m l b o cap w hD hr hcap hbd hBw hsz h.1 h.2
  · exact write_more B d hb rv m l b o cap w hD hr hcap hbd hbh hbr hBw hbw htab hgB hsz (by omega)

set_option maxHeartbeats 2000000 in
theorem new_any (w : World) : Calls Tryd.prog 38 #[] w fun e w' => e = .returned (.pointer (some ⟨w.heap.size + 1, 0, none⟩)) ∧ Dig w.heap.size w' (w.heap.size + 1) w.heap.size (.slice none 0 0) [] ∧ Below w.heap.size w w' := by
  go_enter Tryd.func38, Tryd.ntmps38
  go_wp2_with fail
  go_ret
  refine ⟨?_, ⟨?_, ?_, ?_, ?_⟩, ?_⟩
  · simp
  · have h := heap_one (w.alloc (.cells (u32s (stL St.start)) 101)) (.cells #[.pointer (some ⟨w.heap.size, 0, none⟩), .slice none 0 0, .int .u64 0] 103)
    rw [show (w.alloc (.cells (u32s (stL St.start)) 101)).heap.size = w.heap.size + 1 by simp] at h
    exact h
  · exact below_heap (below_one (w.alloc (.cells (u32s (stL St.start)) 101)) _) (heap_one w (.cells (u32s (stL St.start)) 101))
  · exact ⟨rfl, .inl ⟨rfl, rfl⟩⟩
  · exact ⟨Nat.le_succ _, Nat.le_refl _⟩
  · exact ((Below.refl w.heap.size w).alloc (Nat.le_refl _) _).alloc (by simp) _

theorem step_append_row {ops : Array Oper} {o : Oper} {a : Act} {K : Act → World → Prop} {Q : Exit → Act → World → Prop} {E : Prop} (hgd : o.guard = none) (s x : Operand)
    (ho : o.op = .call { callee := .builtin .append, args := #[s, x], argTypes := #[73, 73] }) {W : World} {B B' n : Nat} {v : Value} {l : List UInt8}
    (hs : a.eval s = .slice none 0 0) (hx : a.eval x = v) (hown : W.ownsRow B 5 1 v n (Lib.byteCells l)) (hm : n ≤ 1000) (hB : B' ≤ W.heap.size)
    (h : ∀ v' W', W'.ownsRow B' 5 1 v' n (Lib.byteCells l) → W.grownBy W' none → K (a.put o.dst v') W') :
    if Region.wanted o (yielded ops a.tmps) = true then Oper.wp Tryd.prog o a W K Q else E := by
  rcases Nat.eq_zero_or_pos n with hn | hn
  · have hw : Region.wanted o (yielded ops a.tmps) = true := by simp [Region.wanted, hgd]
    rw [if_pos hw]
    subst hn
    obtain ⟨i0, hi, hz0, hz1, hz2⟩ := info_parts Tryd.infoByte
    have hl : l = [] := by
      have := hown.1
      rw [Lib.byteCells_length] at this
      exact List.eq_nil_of_length_eq_zero (by omega)
    subst hl
    have h0 := h (.slice none 0 0) W ⟨rfl, .inl ⟨rfl, rfl⟩⟩ ⟨rfl, rfl, rfl, Nat.le_refl _, fun _ _ _ => rfl⟩
    obtain ⟨ao, cp, rfl⟩ : ∃ ao cp, v = .slice ao 0 cp := by
      rcases hown.2 with ⟨hv, _⟩ | ⟨g, cap, cur, hv, _⟩
      · exact ⟨_, _, hv⟩
      · exact ⟨_, _, hv⟩
    have ht : Tryd.prog.underlying 73 = some (.slice 5) := Tryd.underlying73
    unfold Oper.wp execOp
    simp only [ho, resolve, invoke, builtin, Sem.run_bind, Sem.run_pure, Result.andThen_ok, List.map_toArray, List.map_cons, List.map_nil, hs, hx]
    cases ao <;> (simp [Builtin.append_, run_underlying ht, sizeOf, typeInfo, hi, Builtin.lenOf, Builtin.firstCells, loadCells, loadCellsFrom]; exact h0)
  · obtain ⟨g, cap, rfl, _, _, _, hr⟩ := own_range hown hn
    refine step_append_bytes (v := .slice none 0 0) (xs := []) (n := 0) (news := Lib.byteCells l) hgd s x ho hs ⟨rfl, .inl ⟨rfl, rfl⟩⟩ hx (by have := hown.1; omega) (fun j u hj => by rw [Addr.add_mid]; exact hr j u hj) (byteCells_one' _) (by omega) hB ?_
    intro v' W' h1 h2 h3
    rw [Nat.zero_add, List.nil_append] at h1
    exact h v' W' h1 h2
theorem below_setRow {B g : Nat} {w w' : World} (h : Below B w w') (hg : B ≤ g) (cs : Array Value) : Below B w (w'.setRow g cs) :=
  ⟨h.os, h.tape, h.output, by rw [setRow_size]; exact h.size, fun k hk => (setRow_other w' g k cs (by omega)).trans (h.block k hk)⟩
theorem store8 (w : World) (l : List Nat) (T : TypeId) (hl : l.length = 8) : (storeCells ⟨w.heap.size, 0, none⟩ (u32s l).toList).run Tryd.prog (w.alloc (.cells #[.int .u32 0, .int .u32 0, .int .u32 0, .int .u32 0, .int .u32 0, .int .u32 0, .int .u32 0, .int .u32 0] T)) = .ok () ((w.alloc (.cells #[.int .u32 0, .int .u32 0, .int .u32 0, .int .u32 0, .int .u32 0, .int .u32 0, .int .u32 0, .int .u32 0] T)).setRow w.heap.size (u32s l)) := by
  have := run_storeCells_from (P := Tryd.prog) w.heap.size T (u32s l).toList 0 _ (w.alloc (.cells #[.int .u32 0, .int .u32 0, .int .u32 0, .int .u32 0, .int .u32 0, .int .u32 0, .int .u32 0, .int .u32 0] T)) (heap_one w _) (by simp [u32s, hl]) (fun v hv => by
    simp only [u32s, List.mem_map] at hv
    obtain ⟨x, _, rfl⟩ := hv
    rfl)
  simpa using this
set_option maxHeartbeats 8000000 in
set_option maxRecDepth 100000 in
theorem copy_any (B d hb : Nat) (rv : Value) (m : List UInt8) (w : World) (hD : Dig B w d hb rv m) :
    Calls Tryd.prog 48 #[.pointer (some ⟨d, 0, none⟩)] w fun e w' => ∃ d' hb' rv', e = .returned (.pointer (some ⟨d', 0, none⟩)) ∧ Dig w.heap.size w' d' hb' rv' m ∧ Below w.heap.size w w' := by
  have d0 := cell_of hD.dc 0 (v := .pointer (some ⟨hb, 0, none⟩)) rfl
  have ld := lt_of_heap hD.dc
  have lh := lt_of_heap hD.hc
  have HHC := Lib.hid hD.hc
  have HD := Lib.hid hD
  clear hD
  go_enter Tryd.func48, Tryd.ntmps48
  go_upto_region 3 with fail
  go_wp2_with (refine wpList_load_row (by rfl) 101 (.tmp 17) (by rfl) hb (by rfl) 101 _ _ _ HHC.out Tryd.underlying101 rfl (by kernel_rfl) ?_)
  rw [store8 w (stL (stOf m)) 101 rfl]
  simp only [Result.andThen_ok]
  have hN := setRow_heap (w.alloc (.cells #[.int .u32 0, .int .u32 0, .int .u32 0, .int .u32 0, .int .u32 0, .int .u32 0, .int .u32 0, .int .u32 0] 101)) w.heap.size _ (u32s (stL (stOf m))) 101 (0, 0) (heap_one w _)
  have hB : Below w.heap.size w ((w.alloc (.cells #[.int .u32 0, .int .u32 0, .int .u32 0, .int .u32 0, .int .u32 0, .int .u32 0, .int .u32 0, .int .u32 0] 101)).setRow w.heap.size (u32s (stL (stOf m)))) := below_setRow (below_one w _) (Nat.le_refl _) _
  have hS : ((w.alloc (.cells #[.int .u32 0, .int .u32 0, .int .u32 0, .int .u32 0, .int .u32 0, .int .u32 0, .int .u32 0, .int .u32 0] 101)).setRow w.heap.size (u32s (stL (stOf m)))).heap.size = w.heap.size + 1 := by simp
  generalize ((w.alloc (.cells #[.int .u32 0, .int .u32 0, .int .u32 0, .int .u32 0, .int .u32 0, .int .u32 0, .int .u32 0, .int .u32 0] 101)).setRow w.heap.size (u32s (stL (stOf m)))) = wa at *
  have HN := Lib.hid hN
  have HB := Lib.hid hB
  have HS := Lib.hid hS
  have HDA := Lib.hid (HD.out.below hB)
  clear hN hB hS d0 ld lh HHC
  go_upto_region 4 with fail
  refine wp_region_any (by kernel_rfl) ?_
  change wpAny _ _ _ _ _ _ _ (World.drew _)
  have d0 := cell_of HDA.out.dc 0 (v := .pointer (some ⟨hb, 0, none⟩)) rfl
  have e1 : wa.drew.cell? ⟨d, 1, none⟩ = some rv := cell_of HDA.out.dc 1 (v := rv) rfl
  have e2 : wa.drew.cell? ⟨d, 2, none⟩ = some (.int .u64 (m.length : Int)) := cell_of HDA.out.dc 2 rfl
  have ldd : d < wa.drew.heap.size := lt_of_heap HDA.out.dc
  have HROW := Lib.hid (show wa.drew.ownsRow B 5 1 rv (m.length % 64) (Lib.byteCells (m.drop (64 * (m.length / 64)))) from HDA.out.own)
  have HSD := Lib.hid (show w.heap.size ≤ wa.drew.heap.size from Nat.le_trans (Nat.le_succ _) (Nat.le_of_eq HS.out.symm))
  refine wpAny_take (i := 0) (v := .pointer (some ⟨d, 0, none⟩)) rfl (by kernel_rfl) (by kernel_rfl) (by kernel_rfl) (fun _ _ _ h => h) (Or.inl ⟨by rfl, ?_⟩) ?_
  · intro w
    go_simp
  simp only [List.getElem_toArray, List.getElem_cons_zero, Act.put, List.setIfInBounds_toArray, List.set_cons_zero, List.set_cons_succ]
  refine wpAny_take (i := 1) (v := .pointer (some ⟨d, 0, none⟩)) rfl (by kernel_rfl) (by kernel_rfl) (by kernel_rfl) (fun _ _ _ h => h) (Or.inl ⟨by rfl, ?_⟩) ?_
  · intro w
    go_simp
  simp only [List.getElem_toArray, List.getElem_cons_succ, List.getElem_cons_zero, Act.put, List.setIfInBounds_toArray, List.set_cons_zero, List.set_cons_succ]
  refine wpAny_take (i := 2) (v := .pointer (some ⟨d, 1, none⟩)) rfl (by kernel_rfl) (by kernel_rfl) (by kernel_rfl) (fun _ _ _ h => h) (Or.inl ⟨by rfl, ?_⟩) ?_
  · intro w
    go_simp
  simp only [List.getElem_toArray, List.getElem_cons_succ, List.getElem_cons_zero, Act.put, List.setIfInBounds_toArray, List.set_cons_zero, List.set_cons_succ]
  refine wpAny_take (i := 5) (v := .pointer (some ⟨d, 0, none⟩)) rfl (by kernel_rfl) (by kernel_rfl) (by kernel_rfl) (fun _ _ _ h => h) (Or.inl ⟨by rfl, ?_⟩) ?_
  · intro w
    go_simp
  simp only [List.getElem_toArray, List.getElem_cons_succ, List.getElem_cons_zero, Act.put, List.setIfInBounds_toArray, List.set_cons_zero, List.set_cons_succ]
  refine wpAny_take (i := 6) (v := .pointer (some ⟨d, 0, none⟩)) rfl (by kernel_rfl) (by kernel_rfl) (by kernel_rfl) (fun _ _ _ h => h) (Or.inl ⟨by rfl, ?_⟩) ?_
  · intro w
    go_simp
  simp only [List.getElem_toArray, List.getElem_cons_succ, List.getElem_cons_zero, Act.put, List.setIfInBounds_toArray, List.set_cons_zero, List.set_cons_succ]
  refine wpAny_take (i := 7) (v := .pointer (some ⟨d, 2, none⟩)) rfl (by kernel_rfl) (by kernel_rfl) (by kernel_rfl) (fun _ _ _ h => h) (Or.inl ⟨by rfl, ?_⟩) ?_
  · intro w
    go_simp
  simp only [List.getElem_toArray, List.getElem_cons_succ, List.getElem_cons_zero, Act.put, List.setIfInBounds_toArray, List.set_cons_zero, List.set_cons_succ]
  refine wpAny_ready (rs := [3, 8]) (by kernel_rfl) (by simp) ?_
  refine AllReady.cons rfl (fun K hK => ?_) (AllReady.cons rfl (fun K hK => ?_) AllReady.nil)
  · go_simp
    refine hK _ _ ?_
    clear hK K
    refine wpAny_ready (rs := [4, 8]) (by kernel_rfl) (by simp) ?_
    refine AllReady.cons rfl (fun K hK => ?_) (AllReady.cons rfl (fun K hK => ?_) AllReady.nil)
    · refine step_append_row (B := B) (B' := w.heap.size) (by rfl) (.const (.slice none 0 0)) (.tmp 22) (by rfl) (by rfl) (by rfl) HROW.out (by omega) HSD.out ?_
      intro v' W5 g2 g3
      obtain ⟨vo, vq, rfl⟩ := owns_anyH g2
      have hB5 : Below wa.heap.size wa W5 := ⟨g3.os, g3.tape, g3.output, g3.size, fun k hk => g3.block k hk (fun e => by cases e)⟩
      have HD5 := Lib.hid (HDA.out.below hB5)
      have HN5 := Lib.hid (below_heap hB5 HN.out)
      have HB5 := Lib.hid hB5
      have G2 := Lib.hid g2
      have c5 := cell_of HD5.out.dc 2 (v := .int .u64 (m.length : Int)) rfl
      have l5 := lt_of_heap HD5.out.dc
      clear g2 g3 hB5 e1 e2 d0 ldd
      refine hK _ _ ?_
      clear hK K
      refine wpAny_ready (rs := [8]) (by kernel_rfl) (by simp) ?_
      refine AllReady.cons rfl (fun K hK => ?_) AllReady.nil
      go_simp
      refine hK _ _ ?_
      clear hK K
      refine wpAny_take (i := 9) (v := .agg #[.pointer (some ⟨w.heap.size, 0, none⟩), .slice vo (m.length % 64) vq, .int .u64 (m.length : Int)]) rfl (by kernel_rfl) (by kernel_rfl) (by kernel_rfl) (fun _ _ _ h => h) (Or.inl ⟨by rfl, ?_⟩) ?_
      · intro w
        go_simp
      simp only [List.getElem_toArray, List.getElem_cons_succ, List.getElem_cons_zero, Act.put, List.setIfInBounds_toArray, List.set_cons_zero, List.set_cons_succ]
      refine wpAny_ready (rs := [10]) (by kernel_rfl) (by simp) ?_
      refine AllReady.cons rfl (fun K hK => ?_) AllReady.nil
      go_simp
      refine hK _ _ ?_
      clear hK K
      refine wpAny_ready (rs := [11]) (by kernel_rfl) (by simp) ?_
      refine AllReady.cons rfl (fun K hK => ?_) AllReady.nil
      go_simp
      refine hK _ _ ?_
      clear hK K
      refine wpAny_done (by kernel_rfl) ?_ _
      simp only [Exit.then]
      go_wp2_with fail
      go_ret
      exact ⟨W5.heap.size, w.heap.size, .slice vo (m.length % 64) vq, rfl, ⟨heap_one W5 _, below_heap (below_one W5 _) HN5.out, own_belowS G2.out (below_one W5 _), ⟨Nat.le_trans (Nat.le_trans (Nat.le_succ _) (Nat.le_of_eq HS.out.symm)) HB5.out.size, Nat.le_refl _⟩⟩, (HB.out.trans (HB5.out.mono (Nat.le_trans (Nat.le_succ _) (Nat.le_of_eq HS.out.symm)))).alloc (Nat.le_trans (Nat.le_trans (Nat.le_succ _) (Nat.le_of_eq HS.out.symm)) HB5.out.size) _⟩
    · go_simp
      refine hK _ _ ?_
      clear hK K
      refine wpAny_ready (rs := [4]) (by kernel_rfl) (by simp) ?_
      refine AllReady.cons rfl (fun K hK => ?_) AllReady.nil
      refine step_append_row (B := B) (B' := w.heap.size) (by rfl) (.const (.slice none 0 0)) (.tmp 22) (by rfl) (by rfl) (by rfl) HROW.out (by omega) HSD.out ?_
      intro v' W5 g2 g3
      obtain ⟨vo, vq, rfl⟩ := owns_anyH g2
      have hB5 : Below wa.heap.size wa W5 := ⟨g3.os, g3.tape, g3.output, g3.size, fun k hk => g3.block k hk (fun e => by cases e)⟩
      have HD5 := Lib.hid (HDA.out.below hB5)
      have HN5 := Lib.hid (below_heap hB5 HN.out)
      have HB5 := Lib.hid hB5
      have G2 := Lib.hid g2
      have c5 := cell_of HD5.out.dc 2 (v := .int .u64 (m.length : Int)) rfl
      have l5 := lt_of_heap HD5.out.dc
      clear g2 g3 hB5 e1 e2 d0 ldd
      refine hK _ _ ?_
      clear hK K
      refine wpAny_take (i := 9) (v := .agg #[.pointer (some ⟨w.heap.size, 0, none⟩), .slice vo (m.length % 64) vq, .int .u64 (m.length : Int)]) rfl (by kernel_rfl) (by kernel_rfl) (by kernel_rfl) (fun _ _ _ h => h) (Or.inl ⟨by rfl, ?_⟩) ?_
      · intro w
        go_simp
      simp only [List.getElem_toArray, List.getElem_cons_succ, List.getElem_cons_zero, Act.put, List.setIfInBounds_toArray, List.set_cons_zero, List.set_cons_succ]
      refine wpAny_ready (rs := [10]) (by kernel_rfl) (by simp) ?_
      refine AllReady.cons rfl (fun K hK => ?_) AllReady.nil
      go_simp
      refine hK _ _ ?_
      clear hK K
      refine wpAny_ready (rs := [11]) (by kernel_rfl) (by simp) ?_
      refine AllReady.cons rfl (fun K hK => ?_) AllReady.nil
      go_simp
      refine hK _ _ ?_
      clear hK K
      refine wpAny_done (by kernel_rfl) ?_ _
      simp only [Exit.then]
      go_wp2_with fail
      go_ret
      exact ⟨W5.heap.size, w.heap.size, .slice vo (m.length % 64) vq, rfl, ⟨heap_one W5 _, below_heap (below_one W5 _) HN5.out, own_belowS G2.out (below_one W5 _), ⟨Nat.le_trans (Nat.le_trans (Nat.le_succ _) (Nat.le_of_eq HS.out.symm)) HB5.out.size, Nat.le_refl _⟩⟩, (HB.out.trans (HB5.out.mono (Nat.le_trans (Nat.le_succ _) (Nat.le_of_eq HS.out.symm)))).alloc (Nat.le_trans (Nat.le_trans (Nat.le_succ _) (Nat.le_of_eq HS.out.symm)) HB5.out.size) _⟩
  · go_simp
    refine hK _ _ ?_
    clear hK K
    refine wpAny_ready (rs := [3]) (by kernel_rfl) (by simp) ?_
    refine AllReady.cons rfl (fun K hK => ?_) AllReady.nil
    go_simp
    refine hK _ _ ?_
    clear hK K
    refine wpAny_ready (rs := [4]) (by kernel_rfl) (by simp) ?_
    refine AllReady.cons rfl (fun K hK => ?_) AllReady.nil
    refine step_append_row (B := B) (B' := w.heap.size) (by rfl) (.const (.slice none 0 0)) (.tmp 22) (by rfl) (by rfl) (by rfl) HROW.out (by omega) HSD.out ?_
    intro v' W5 g2 g3
    obtain ⟨vo, vq, rfl⟩ := owns_anyH g2
    have hB5 : Below wa.heap.size wa W5 := ⟨g3.os, g3.tape, g3.output, g3.size, fun k hk => g3.block k hk (fun e => by cases e)⟩
    have HD5 := Lib.hid (HDA.out.below hB5)
    have HN5 := Lib.hid (below_heap hB5 HN.out)
    have HB5 := Lib.hid hB5
    have G2 := Lib.hid g2
    have c5 := cell_of HD5.out.dc 2 (v := .int .u64 (m.length : Int)) rfl
    have l5 := lt_of_heap HD5.out.dc
    clear g2 g3 hB5 e1 e2 d0 ldd
    refine hK _ _ ?_
    clear hK K
    refine wpAny_take (i := 9) (v := .agg #[.pointer (some ⟨w.heap.size, 0, none⟩), .slice vo (m.length % 64) vq, .int .u64 (m.length : Int)]) rfl (by kernel_rfl) (by kernel_rfl) (by kernel_rfl) (fun _ _ _ h => h) (Or.inl ⟨by rfl, ?_⟩) ?_
    · intro w
      go_simp
    simp only [List.getElem_toArray, List.getElem_cons_succ, List.getElem_cons_zero, Act.put, List.setIfInBounds_toArray, List.set_cons_zero, List.set_cons_succ]
    refine wpAny_ready (rs := [10]) (by kernel_rfl) (by simp) ?_
    refine AllReady.cons rfl (fun K hK => ?_) AllReady.nil
    go_simp
    refine hK _ _ ?_
    clear hK K
    refine wpAny_ready (rs := [11]) (by kernel_rfl) (by simp) ?_
    refine AllReady.cons rfl (fun K hK => ?_) AllReady.nil
    go_simp
    refine hK _ _ ?_
    clear hK K
    refine wpAny_done (by kernel_rfl) ?_ _
    simp only [Exit.then]
    go_wp2_with fail
    go_ret
    exact ⟨W5.heap.size, w.heap.size, .slice vo (m.length % 64) vq, rfl, ⟨heap_one W5 _, below_heap (below_one W5 _) HN5.out, own_belowS G2.out (below_one W5 _), ⟨Nat.le_trans (Nat.le_trans (Nat.le_succ _) (Nat.le_of_eq HS.out.symm)) HB5.out.size, Nat.le_refl _⟩⟩, (HB.out.trans (HB5.out.mono (Nat.le_trans (Nat.le_succ _) (Nat.le_of_eq HS.out.symm)))).alloc (Nat.le_trans (Nat.le_trans (Nat.le_succ _) (Nat.le_of_eq HS.out.symm)) HB5.out.size) _⟩
end Go.Proofs.YthcccgbodceeeaaDoor
