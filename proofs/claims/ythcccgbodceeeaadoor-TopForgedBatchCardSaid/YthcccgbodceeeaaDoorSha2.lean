/-
  SHA-256: the digest's state; (*sha.Digest).Write by its contract.
-/
import Derived.Test.YthcccgbodceeeaaDoorSha1
namespace Go.Proofs.YthcccgbodceeeaaDoor
open Go.RowKit

theorem blocks_app (s : St) (m x : List UInt8) : ∀ n, 64 * n ≤ m.length → s.blocks (m ++ x) n = s.blocks m n
  | 0, _ => rfl
  | n + 1, h => by
    rw [St.blocks, St.blocks, blocks_app s m x n (by omega), List.drop_append_of_le_length (by omega), List.take_append_of_le_length (by rw [List.length_drop]; omega)]
/-- The words behind all whole blocks of a text. -/
def stOf (m : List UInt8) : St := St.start.blocks m (m.length / 64)
/-- A digest of these bytes. -/
structure Dig (B : Nat) (w : World) (d hb : Nat) (rv : Value) (m : List UInt8) : Prop where
  dc : w.heap[d]? = some (.cells #[.pointer (some ⟨hb, 0, none⟩), rv, .int .u64 (m.length : Int)] 103)
  hc : w.heap[hb]? = some (.cells (u32s (stL (stOf m))) 101)
  own : w.ownsRow B 5 1 rv (m.length % 64) (Lib.byteCells (m.drop (64 * (m.length / 64))))
  lo : B ≤ d ∧ B ≤ hb
theorem own_belowS {B : Nat} {w w' : World} {e : TypeId} {size n : Nat} {v : Value} {xs : List Value} (h : w.ownsRow B e size v n xs) (hb : Below w.heap.size w w') : w'.ownsRow B e size v n xs := by
  refine ⟨h.1, ?_⟩
  rcases h.2 with h' | ⟨g, cap, cur, rfl, hg, hh, hr⟩
  · exact .inl h'
  · exact .inr ⟨g, cap, cur, rfl, hg, below_heap hb hh, hr⟩
theorem Dig.below {B : Nat} {w w' : World} {d hb : Nat} {rv : Value} {m : List UInt8} (h : Dig B w d hb rv m) (hb' : Below w.heap.size w w') : Dig B w' d hb rv m :=
  ⟨below_heap hb' h.dc, below_heap hb' h.hc, own_belowS h.own hb', h.lo⟩
theorem Dig.ne {B : Nat} {w : World} {d hb : Nat} {rv : Value} {m : List UInt8} (h : Dig B w d hb rv m) : d ≠ hb ∧ rv.ownBlock ≠ some d ∧ rv.ownBlock ≠ some hb := by
  refine ⟨fun e => ?_, ownBlock_neH h.own h.dc (by decide), ownBlock_neH h.own h.hc (by decide)⟩
  have h1 := h.dc
  rw [e, h.hc] at h1
  simp only [Option.some.injEq, Obj.cells.injEq] at h1
  exact absurd h1.2.1 (by decide)
theorem own_heapS {B : Nat} {w w' : World} {e : TypeId} {size n : Nat} {v : Value} {xs : List Value} (h : w.ownsRow B e size v n xs) (hb : ∀ g, v.ownBlock = some g → w'.heap[g]? = w.heap[g]?) : w'.ownsRow B e size v n xs := by
  refine ⟨h.1, ?_⟩
  rcases h.2 with h' | ⟨g, cap, cur, rfl, hg, hh, hr⟩
  · exact .inl h'
  · exact .inr ⟨g, cap, cur, rfl, hg, (hb g rfl).trans hh, hr⟩
theorem range_heap {w w' : World} {b o : Nat} {cs : List Value} (h : w.rangeAt b o cs) (hb : w'.heap[b]? = w.heap[b]?) : w'.rangeAt b o cs := fun j v hv => by
  have := h j v hv
  rwa [← World.cell?_of_block hb] at this
theorem set_heap3 {W : World} {b i : Nat} {cs : Array Value} {t : TypeId} {fr : Nat × Nat} {u : Value} (h : W.heap[b]? = some (.cells cs t fr)) :
    (W.setCell ⟨b, i, none⟩ u).heap[b]? = some (.cells (cs.setIfInBounds i u) t fr) := set_heapS h
theorem u64_wrapS (n : Int) (h0 : 0 ≤ n) (h1 : n < 18446744073709551616) : IntKind.wrap .u64 n = n := by
  rw [show IntKind.wrap .u64 n = n % 18446744073709551616 from rfl]
  omega

theorem step_append_bytes {ops : Array Oper} {o : Oper} {a : Act} {K : Act → World → Prop} {Q : Exit → Act → World → Prop} {E : Prop} (hgd : o.guard = none) (s x : Operand)
    (ho : o.op = .call { callee := .builtin .append, args := #[s, x], argTypes := #[73, 73] }) {W : World} {B n m c : Nat} {v : Value} {xs news : List Value} {ad : Addr}
    (hs : a.eval s = v) (hown : W.ownsRow B 5 1 v n xs) (hx : a.eval x = .slice (some ad) m c) (hl : news.length = m) (hnews : ∀ j u, news[j]? = some u → W.cell? (ad.add j) = some u) (h1 : ∀ u ∈ news, u.oneCell' = true) (hm : n + m ≤ 1000) (hB : B ≤ W.heap.size)
    (h : ∀ v' W', W'.ownsRow B 5 1 v' (n + m) (xs ++ news) → W.grownBy W' v.ownBlock → (v'.ownBlock = v.ownBlock ∨ v'.ownBlock = some W.heap.size) → K (a.put o.dst v') W') :
    if Region.wanted o (yielded ops a.tmps) = true then Oper.wp Tryd.prog o a W K Q else E := by
  have hw : Region.wanted o (yielded ops a.tmps) = true := by simp [Region.wanted, hgd]
  rw [if_pos hw]
  obtain ⟨i0, hi, hz0, hz1, hz2⟩ := info_parts Tryd.infoByte
  obtain ⟨v', W', hr, h2, h3, _, h4⟩ := run_append_own_at (P := Tryd.prog) W B 73 o.type 5 i0 _ 1 1 Tryd.underlying73 hi hz0 hz1 hz2 rfl (by decide) v n xs hown ad m c news (by omega) hnews h1 (by unfold maxLen; omega) (by omega) hB
  unfold Oper.wp execOp
  simp only [ho, resolve, invoke, builtin, Sem.run_bind, Sem.run_pure, Result.andThen_ok, List.map_toArray, List.map_cons, List.map_nil, hs, hx, hr]
  exact h v' W' h2 h3 h4
theorem byteCells_one' (l : List UInt8) : ∀ u ∈ Lib.byteCells l, u.oneCell' = true := by
  intro u hu
  obtain ⟨b, _, rfl⟩ := List.mem_map.1 hu
  rfl
theorem byteCells_app (a b : List UInt8) : Lib.byteCells a ++ Lib.byteCells b = Lib.byteCells (a ++ b) := by simp [Lib.byteCells]
theorem drop_mod (m l : List UInt8) (h : m.length % 64 + l.length < 64) : (m ++ l).length % 64 = m.length % 64 + l.length ∧ (m ++ l).length / 64 = m.length / 64 ∧ (m ++ l).drop (64 * (m.length / 64)) = m.drop (64 * (m.length / 64)) ++ l := by
  refine ⟨by rw [List.length_append]; omega, by rw [List.length_append]; omega, List.drop_append_of_le_length (by omega)⟩
set_option maxHeartbeats 4000000 in
set_option maxRecDepth 100000 in
theorem write_few (B d hb : Nat) (rv : Value) (m l : List UInt8) (b o cap : Nat) (w : World) (hD : Dig B w d hb rv m) (hr : w.rangeAt b o (Lib.byteCells l)) (hcap : l.length ≤ cap) (hbd : b ≠ d) (hBw : B ≤ w.heap.size)
    (hsz : m.length + l.length ≤ 4611686018427387904) (h0 : 0 < m.length % 64) (h1 : m.length % 64 + l.length < 64) :
    Calls Tryd.prog 39 #[.pointer (some ⟨d, 0, none⟩), .slice (some ⟨b, o, none⟩) l.length cap] w fun e w' => e = .returned (.tuple #[]) ∧ ∃ rv', Dig B w' d hb rv' (m ++ l) ∧ Below B w w' := by
  obtain ⟨ao, cp, rfl⟩ := owns_anyH hD.own
  have HNE := Lib.hid hD.ne
  have d0 := cell_of hD.dc 0 (v := .pointer (some ⟨hb, 0, none⟩)) rfl
  have d2 := cell_of hD.dc 2 (v := .int .u64 (m.length : Int)) rfl
  have f2 := frozen_row hD.dc 2
  have ld := lt_of_heap hD.dc
  have hmin : min (64 - ((m.length % 64 : Nat) : Int)) (l.length : Int) = (l.length : Int) := by omega
  have hw0 : IntKind.wrap .i64 (64 - ((m.length % 64 : Nat) : Int)) = 64 - ((m.length % 64 : Nat) : Int) := IntWalk.i64_in _ (by omega)
  have hwl : IntKind.wrap .u64 (l.length : Int) = (l.length : Int) := u64_wrapS _ (by omega) (by omega)
  have hws : IntKind.wrap .u64 ((m.length : Int) + (l.length : Int)) = (m.length : Int) + (l.length : Int) := u64_wrapS _ (by omega) (by omega)
  have hr0 : (0 : Int) < ((m.length % 64 : Nat) : Int) := by omega
  have hl0 : (0 : Int) ≤ (l.length : Int) := by omega
  have hlc : (l.length : Int) ≤ (cap : Int) := by omega
  have hmL : (l.length : Int) ≤ 64 - ((m.length % 64 : Nat) : Int) := by omega
  have hrl : ((m.length % 64 : Nat) : Int) + (l.length : Int) < 64 := by omega
  have hrl2 : ((m.length % 64 + l.length : Nat) : Int) < 64 := by omega
  obtain ⟨p1, p2, p3⟩ := drop_mod m l h1
  have HP1 := Lib.hid p1
  have HP2 := Lib.hid p2
  have HP3 := Lib.hid p3
  have HSO := Lib.hid (show stOf (m ++ l) = stOf m by unfold stOf; rw [p2, blocks_app _ _ _ _ (by omega)])
  have HLO := Lib.hid hD.lo
  have hdc := set_heap3 (i := 2) (u := .int .u64 ((m.length : Int) + (l.length : Int))) hD.dc
  have hhc := (heap_setCell_other w ⟨d, 2, none⟩ hb (.int .u64 ((m.length : Int) + (l.length : Int))) (fun e => hD.ne.1 e.symm)).trans hD.hc
  have hown := own_heapS hD.own (w' := w.setCell ⟨d, 2, none⟩ (.int .u64 ((m.length : Int) + (l.length : Int)))) (fun g hg => heap_setCell_other w _ g _ (fun e => hD.ne.2.1 (hg.trans (congrArg some e))))
  have hrr := range_heap hr (w' := w.setCell ⟨d, 2, none⟩ (.int .u64 ((m.length : Int) + (l.length : Int)))) (heap_setCell_other w _ b _ hbd)
  have hbel := (Below.refl B w).setCell (p := ⟨d, 2, none⟩) hD.lo.1 (.int .u64 ((m.length : Int) + (l.length : Int)))
  have hsz2 : (w.setCell ⟨d, 2, none⟩ (.int .u64 ((m.length : Int) + (l.length : Int)))).heap.size = w.heap.size := by simp
  have HDC := Lib.hid hdc
  have HHC := Lib.hid hhc
  have HOWN := Lib.hid hown
  have HNW := Lib.hid (show ∀ j u, (Lib.byteCells l)[j]? = some u → (w.setCell ⟨d, 2, none⟩ (.int .u64 ((m.length : Int) + (l.length : Int)))).cell? ((⟨b, o, none⟩ : Addr).add j) = some u from fun j u hj => by rw [Addr.add_mid]; exact hrr j u hj)
  have HNL := Lib.hid (Lib.byteCells_length l)
  have HNB := Lib.hid (show m.length % 64 + l.length ≤ 1000 by omega)
  have HBWS := Lib.hid (show B ≤ (w.setCell ⟨d, 2, none⟩ (.int .u64 ((m.length : Int) + (l.length : Int)))).heap.size by rw [hsz2]; exact hBw)
  have HLD := Lib.hid (show d < (w.setCell ⟨d, 2, none⟩ (.int .u64 ((m.length : Int) + (l.length : Int)))).heap.size by rw [hsz2]; exact ld)
  have HBEL := Lib.hid hbel
  have HH0 := Lib.hid h0
  clear hD hr h1 h0 p1 p2 p3 hdc hhc hown hrr hbel hsz2
  generalize hrm : m.length % 64 = r at *
  have HRM := Lib.hid hrm
  clear hrm
  go_enter Tryd.func39, Tryd.ntmps39
  go_upto_region 2 with fail
  clear d0 d2 f2
  generalize w.setCell ⟨d, 2, none⟩ (.int .u64 ((m.length : Int) + (l.length : Int))) = ws at *
  have d1 := cell_of HDC.out 1 (v := .slice ao r cp) rfl
  have f1 := frozen_row HDC.out 1
  have ld2 := HLD.out
  have ddr : ws.drew.cell? ⟨d, 1, none⟩ = some (.slice ao r cp) := d1
  go_upto_region 4 with fail
  refine wp_region_any (by kernel_rfl) ?_
  change wpAny _ _ _ _ _ _ _ (World.drew _)
  refine wpAny_take (i := 0) (v := .pointer (some ⟨d, 0, none⟩)) rfl (by kernel_rfl) (by kernel_rfl) (by kernel_rfl) (fun _ _ _ h => h) (Or.inl ⟨by rfl, ?_⟩) ?_
  · intro w
    go_simp
  simp only [List.getElem_toArray, List.getElem_cons_zero, Act.put, List.setIfInBounds_toArray, List.set_cons_zero, List.set_cons_succ]
  refine wpAny_take (i := 1) (v := .pointer (some ⟨d, 0, none⟩)) rfl (by kernel_rfl) (by kernel_rfl) (by kernel_rfl) (fun _ _ _ h => h) (Or.inl ⟨by rfl, ?_⟩) ?_
  · intro w
    go_simp
  simp only [List.getElem_toArray, List.getElem_cons_succ, List.getElem_cons_zero, Act.put, List.setIfInBounds_toArray, List.set_cons_zero, List.set_cons_succ]
  refine wpAny_take (i := 2) (v := .pointer (some ⟨d, 0, none⟩)) rfl (by kernel_rfl) (by kernel_rfl) (by kernel_rfl) (fun _ _ _ h => h) (Or.inl ⟨by rfl, ?_⟩) ?_
  · intro w
    go_simp
  simp only [List.getElem_toArray, List.getElem_cons_succ, List.getElem_cons_zero, Act.put, List.setIfInBounds_toArray, List.set_cons_zero, List.set_cons_succ]
  refine wpAny_take (i := 3) (v := .pointer (some ⟨d, 1, none⟩)) rfl (by kernel_rfl) (by kernel_rfl) (by kernel_rfl) (fun _ _ _ h => h) (Or.inl ⟨by rfl, ?_⟩) ?_
  · intro w
    go_simp
  simp only [List.getElem_toArray, List.getElem_cons_succ, List.getElem_cons_zero, Act.put, List.setIfInBounds_toArray, List.set_cons_zero, List.set_cons_succ]
  refine wpAny_take (i := 5) (v := .slice (some ⟨b, o, none⟩) l.length cap) rfl (by kernel_rfl) (by kernel_rfl) (by kernel_rfl) (fun _ _ _ h => h) (Or.inl ⟨by rfl, ?_⟩) ?_
  · intro w
    go_simp
  simp only [List.getElem_toArray, List.getElem_cons_succ, List.getElem_cons_zero, Act.put, List.setIfInBounds_toArray, List.set_cons_zero, List.set_cons_succ]
  refine wpAny_take (i := 6) (v := .int .i64 (l.length : Int)) rfl (by kernel_rfl) (by kernel_rfl) (by kernel_rfl) (fun _ _ _ h => h) (Or.inl ⟨by rfl, ?_⟩) ?_
  · intro w
    go_simp
  simp only [List.getElem_toArray, List.getElem_cons_succ, List.getElem_cons_zero, Act.put, List.setIfInBounds_toArray, List.set_cons_zero, List.set_cons_succ]
  refine wpAny_take (i := 7) (v := .slice (some ⟨b, o, none⟩) l.length cap) rfl (by kernel_rfl) (by kernel_rfl) (by kernel_rfl) (fun _ _ _ h => h) (Or.inl ⟨by rfl, ?_⟩) ?_
  · intro w
    go_simp
  simp only [List.getElem_toArray, List.getElem_cons_succ, List.getElem_cons_zero, Act.put, List.setIfInBounds_toArray, List.set_cons_zero, List.set_cons_succ]
  refine wpAny_ready (rs := [4]) (by kernel_rfl) (by simp) ?_
  refine AllReady.cons rfl (fun K hK => ?_) AllReady.nil
  go_simp
  refine hK _ _ ?_
  clear hK K
  refine wpAny_ready (rs := [8]) (by kernel_rfl) (by simp) ?_
  refine AllReady.cons rfl (fun K hK => ?_) AllReady.nil
  refine step_append_bytes (by rfl) (.tmp 43) (.tmp 46) (by rfl) (by rfl) HOWN.out (by rfl) HNL.out HNW.out (byteCells_one' _) HNB.out HBWS.out ?_
  intro v' W5 g2 g3 g4
  obtain ⟨vo, vq, rfl⟩ := owns_anyH g2
  have G2 := Lib.hid g2
  have G4 := Lib.hid g4
  have e5 : W5.heap[d]? = ws.heap[d]? := g3.block d HLD.out (fun e => HNE.out.2.1 e.symm)
  have e6 : W5.heap[hb]? = ws.heap[hb]? := g3.block hb (lt_of_heap HHC.out) (fun e => HNE.out.2.2 e.symm)
  have E5 := Lib.hid (e5.trans HDC.out)
  have E6 := Lib.hid (e6.trans HHC.out)
  have G3 := Lib.hid g3
  have q1 := cell_of E5.out 1 (v := .slice ao r cp) rfl
  have q2 := frozen_row E5.out 1
  have q3 := lt_of_heap E5.out
  clear g2 g3 g4 e5 e6
  refine hK _ _ ?_
  clear hK K
  refine wpAny_take (i := 9) (v := .pointer (some ⟨d, 0, none⟩)) rfl (by kernel_rfl) (by kernel_rfl) (by kernel_rfl) (fun _ _ _ h => h) (Or.inl ⟨by rfl, ?_⟩) ?_
  · intro w
    go_simp
  simp only [List.getElem_toArray, List.getElem_cons_succ, List.getElem_cons_zero, Act.put, List.setIfInBounds_toArray, List.set_cons_zero, List.set_cons_succ]
  refine wpAny_take (i := 10) (v := .pointer (some ⟨d, 1, none⟩)) rfl (by kernel_rfl) (by kernel_rfl) (by kernel_rfl) (fun _ _ _ h => h) (Or.inl ⟨by rfl, ?_⟩) ?_
  · intro w
    go_simp
  simp only [List.getElem_toArray, List.getElem_cons_succ, List.getElem_cons_zero, Act.put, List.setIfInBounds_toArray, List.set_cons_zero, List.set_cons_succ]
  refine wpAny_ready (rs := [11]) (by kernel_rfl) (by simp) ?_
  refine AllReady.cons rfl (fun K hK => ?_) AllReady.nil
  go_simp
  refine hK _ _ ?_
  clear hK K
  refine wpAny_done (by kernel_rfl) ?_ _
  simp only [Exit.then]
  have HDF := Lib.hid (show (W5.setCell ⟨d, 1, none⟩ (.slice vo (r + l.length) vq)).heap[d]? = _ from set_heap3 (i := 1) (u := .slice vo (r + l.length) vq) E5.out)
  have hne5 : Value.ownBlock (.slice vo (r + l.length) vq) ≠ some d := ownBlock_neH G2.out E5.out (by decide)
  have HOF := Lib.hid (own_heapS G2.out (w' := W5.setCell ⟨d, 1, none⟩ (.slice vo (r + l.length) vq)) (fun g hg => heap_setCell_other W5 _ g _ (fun e => hne5 (hg.trans (congrArg some e)))))
  have HHF := Lib.hid ((heap_setCell_other W5 ⟨d, 1, none⟩ hb (.slice vo (r + l.length) vq) (fun e => HNE.out.1 e.symm)).trans E6.out)
  have HBF := Lib.hid ((HBEL.out.drew.grown G3.out HBWS.out (fun k hk => (HOWN.out.lt k hk).1)).setCell (p := ⟨d, 1, none⟩) HLO.out.1 (.slice vo (r + l.length) vq))
  clear q1 q2 q3 hne5 d1 f1 ddr
  generalize W5.setCell ⟨d, 1, none⟩ (.slice vo (r + l.length) vq) = wf at *
  have d1 := cell_of HDF.out 1 (v := .slice vo (r + l.length) vq) rfl
  have ldf := lt_of_heap HDF.out
  go_wp2_with fail
  all_goals
    refine bodyPost_ret (results_none rfl _ _ _) rfl ⟨rfl, ⟨.slice vo (r + l.length) vq, ?_, ?_, ?_, HLO.out⟩, HBF.out⟩
    · rw [show (((m ++ l).length : Nat) : Int) = (m.length : Int) + (l.length : Int) by rw [List.length_append]; omega]
      exact HDF.out
    · rw [HSO.out]
      exact HHF.out
    · rw [HP1.out, HP2.out, HP3.out, ← byteCells_app]
      exact HOF.out
end Go.Proofs.YthcccgbodceeeaaDoor
