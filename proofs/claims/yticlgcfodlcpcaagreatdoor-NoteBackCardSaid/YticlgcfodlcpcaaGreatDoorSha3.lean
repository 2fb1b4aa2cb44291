/-
  SHA-256: the digest's state; (*sha.Digest).Write by its contract. SHA-256: (*sha.Digest).Write by its contract, whatever is written.
-/
import Derived.Test.YticlgcfodlcpcaaGreatDoorSha1
import Derived.Deep.CutBlock
namespace Go.Proofs.YticlgcfodlcpcaaGreatDoor
open Go.RowKit

theorem blocks_app (s : St) (m x : List UInt8) : ∀ n, 64 * n ≤ m.length → s.blocks (m ++ x) n = s.blocks m n
  | 0, _ => rfl
  | n + 1, h => by
    rw [St.blocks, St.blocks, blocks_app s m x n (by omega), List.drop_append_of_le_length (by omega), List.take_append_of_le_length (by rw [List.length_drop]; omega)]
/-- The words behind all whole blocks of a text. -/
def stOf (m : List UInt8) : St := St.start.blocks m (m.length / 64)
/-- A digest of these bytes. -/
structure Dig (B : Nat) (w : World) (d hb : Nat) (rv : Value) (m : List UInt8) : Prop where
  dc : w.heap[d]? = some (.cells #[.pointer (some ⟨hb, 0, none⟩), rv, .int .u64 (m.length : Int)] 225)
  hc : w.heap[hb]? = some (.cells (u32s (stL (stOf m))) 180)
  own : w.ownsRow B 5 1 rv (m.length % 64) (Lib.byteCells (m.drop (64 * (m.length / 64))))
  lo : B ≤ d ∧ B ≤ hb
theorem own_belowS {B : Nat} {w w' : World} {e : TypeId} {size n : Nat} {v : Value} {xs : List Value} (h : w.ownsRow B e size v n xs) (hb : Below w.heap.size w w') : w'.ownsRow B e size v n xs := by
  refine ⟨h.1, ?_⟩
  rcases h.2 with h' | ⟨g, cap, cur, rfl, hg, hh, hr⟩
  · exact .inl h'
  · exact .inr ⟨g, cap, cur, rfl, hg, below_heap hb hh, hr⟩
theorem Dig.below {B : Nat} {w w' : World} {d hb : Nat} {rv : Value} {m : List UInt8} (h : Dig B w d hb rv m) (hb' : Below w.heap.size w w') : Dig B w' d hb rv m :=
  ⟨below_heap hb' h.dc, below_heap hb' h.hc, own_belowS h.own hb', h.lo⟩
theorem Dig.ne {B : Nat} {w : World} {d hb : Nat} {rv : Value} {m : List UInt8} (h : Dig B w d hb rv m) : d ≠ hb ∧ rv.ownBlock ≠ some d ∧ rv.ownBlock ≠ some hb := by
  refine ⟨fun e => ?_, ownBlock_neH h.own h.dc (by decide), ownBlock_neH h.own h.hc (by decide)⟩
  have h1 := h.dc
  rw [e, h.hc] at h1
  simp only [Option.some.injEq, Obj.cells.injEq] at h1
  exact absurd h1.2.1 (by decide)
theorem own_heapS {B : Nat} {w w' : World} {e : TypeId} {size n : Nat} {v : Value} {xs : List Value} (h : w.ownsRow B e size v n xs) (hb : ∀ g, v.ownBlock = some g → w'.heap[g]? = w.heap[g]?) : w'.ownsRow B e size v n xs := by
  refine ⟨h.1, ?_⟩
  rcases h.2 with h' | ⟨g, cap, cur, rfl, hg, hh, hr⟩
  · exact .inl h'
  · exact .inr ⟨g, cap, cur, rfl, hg, (hb g rfl).trans hh, hr⟩
theorem range_heap {w w' : World} {b o : Nat} {cs : List Value} (h : w.rangeAt b o cs) (hb : w'.heap[b]? = w.heap[b]?) : w'.rangeAt b o cs := fun j v hv => by
  have := h j v hv
  rwa [← World.cell?_of_block hb] at this
theorem set_heap3 {W : World} {b i : Nat} {cs : Array Value} {t : TypeId} {fr : Nat × Nat} {u : Value} (h : W.heap[b]? = some (.cells cs t fr)) :
    (W.setCell ⟨b, i, none⟩ u).heap[b]? = some (.cells (cs.setIfInBounds i u) t fr) := set_heapS h
theorem u64_wrapS (n : Int) (h0 : 0 ≤ n) (h1 : n < 18446744073709551616) : IntKind.wrap .u64 n = n := by
  rw [show IntKind.wrap .u64 n = n % 18446744073709551616 from rfl]
  omega

theorem step_append_bytes {ops : Array Oper} {o : Oper} {a : Act} {K : Act → World → Prop} {Q : Exit → Act → World → Prop} {E : Prop} (hgd : o.guard = none) (s x : Operand)
    (ho : o.op = .call { callee := .builtin .append, args := #[s, x], argTypes := #[117, 117] }) {W : World} {B n m c : Nat} {v : Value} {xs news : List Value} {ad : Addr}
    (hs : a.eval s = v) (hown : W.ownsRow B 5 1 v n xs) (hx : a.eval x = .slice (some ad) m c) (hl : news.length = m) (hnews : ∀ j u, news[j]? = some u → W.cell? (ad.add j) = some u) (h1 : ∀ u ∈ news, u.oneCell' = true) (hm : n + m ≤ 1000) (hB : B ≤ W.heap.size)
    (h : ∀ v' W', W'.ownsRow B 5 1 v' (n + m) (xs ++ news) → W.grownBy W' v.ownBlock → (v'.ownBlock = v.ownBlock ∨ v'.ownBlock = some W.heap.size) → K (a.put o.dst v') W') :
    if Region.wanted o (yielded ops a.tmps) = true then Oper.wp Tryz.prog o a W K Q else E := by
  have hw : Region.wanted o (yielded ops a.tmps) = true := by simp [Region.wanted, hgd]
  rw [if_pos hw]
  obtain ⟨i0, hi, hz0, hz1, hz2⟩ := info_parts Tryz.infoByte
  obtain ⟨v', W', hr, h2, h3, _, h4⟩ := run_append_own_at (P := Tryz.prog) W B 117 o.type 5 i0 _ 1 1 Tryz.underlying117 hi hz0 hz1 hz2 rfl (by decide) v n xs hown ad m c news (by omega) hnews h1 (by unfold maxLen; omega) (by omega) hB
  unfold Oper.wp execOp
  simp only [ho, resolve, invoke, builtin, Sem.run_bind, Sem.run_pure, Result.andThen_ok, List.map_toArray, List.map_cons, List.map_nil, hs, hx, hr]
  exact h v' W' h2 h3 h4
theorem byteCells_all' (l : List UInt8) : ∀ u ∈ Lib.byteCells l, u.oneCell' = true := by
  intro u hu
  obtain ⟨b, _, rfl⟩ := List.mem_map.1 hu
  rfl
theorem byteCells_app (a b : List UInt8) : Lib.byteCells a ++ Lib.byteCells b = Lib.byteCells (a ++ b) := by simp [Lib.byteCells]
theorem drop_mod (m l : List UInt8) (h : m.length % 64 + l.length < 64) : (m ++ l).length % 64 = m.length % 64 + l.length ∧ (m ++ l).length / 64 = m.length / 64 ∧ (m ++ l).drop (64 * (m.length / 64)) = m.drop (64 * (m.length / 64)) ++ l := by
  refine ⟨by rw [List.length_append]; omega, by rw [List.length_append]; omega, List.drop_append_of_le_length (by omega)⟩
set_option maxHeartbeats 4000000 in
set_option maxRecDepth 100000 in
theorem write_few (B d hb : Nat) (rv : Value) (m l : List UInt8) (b o cap : Nat) (w : World) (hD : Dig B w d hb rv m) (hr : w.rangeAt b o (Lib.byteCells l)) (hcap : l.length ≤ cap) (hbd : b ≠ d) (hBw : B ≤ w.heap.size)
    (hsz : m.length + l.length ≤ 4611686018427387904) (h0 : 0 < m.length % 64) (h1 : m.length % 64 + l.length < 64) :
    Calls Tryz.prog 97 #[.pointer (some ⟨d, 0, none⟩), .slice (some ⟨b, o, none⟩) l.length cap] w fun e w' => e = .returned (.tuple #[]) ∧ ∃ rv', Dig B w' d hb rv' (m ++ l) ∧ Below B w w' := by
  obtain ⟨ao, cp, rfl⟩ := owns_anyH hD.own
  have HNE := Lib.hid hD.ne
  have d0 := cell_of hD.dc 0 (v := .pointer (some ⟨hb, 0, none⟩)) rfl
  have d2 := cell_of hD.dc 2 (v := .int .u64 (m.length : Int)) rfl
  have f2 := frozen_row hD.dc 2
  have ld := lt_of_heap hD.dc
  have hmin : min (64 - ((m.length % 64 : Nat) : Int)) (l.length : Int) = (l.length : Int) := by omega
  have hw0 : IntKind.wrap .i64 (64 - ((m.length % 64 : Nat) : Int)) = 64 - ((m.length % 64 : Nat) : Int) := IntWalk.i64_in _ (by omega)
  have hwl : IntKind.wrap .u64 (l.length : Int) = (l.length : Int) := u64_wrapS _ (by omega) (by omega)
  have hws : IntKind.wrap .u64 ((m.length : Int) + (l.length : Int)) = (m.length : Int) + (l.length : Int) := u64_wrapS _ (by omega) (by omega)
  have hr0 : (0 : Int) < ((m.length % 64 : Nat) : Int) := by omega
  have hl0 : (0 : Int) ≤ (l.length : Int) := by omega
  have hlc : (l.length : Int) ≤ (cap : Int) := by omega
  have hmL : (l.length : Int) ≤ 64 - ((m.length % 64 : Nat) : Int) := by omega
  have hrl : ((m.length % 64 : Nat) : Int) + (l.length : Int) < 64 := by omega
  have hrl2 : ((m.length % 64 + l.length : Nat) : Int) < 64 := by omega
  obtain ⟨p1, p2, p3⟩ := drop_mod m l h1
  have HP1 := Lib.hid p1
  have HP2 := Lib.hid p2
  have HP3 := Lib.hid p3
  have HSO := Lib.hid (show stOf (m ++ l) = stOf m by unfold stOf; rw [p2, blocks_app _ _ _ _ (by omega)])
  have HLO := Lib.hid hD.lo
  have hdc := set_heap3 (i := 2) (u := .int .u64 ((m.length : Int) + (l.length : Int))) hD.dc
  have hhc := (heap_setCell_other w ⟨d, 2, none⟩ hb (.int .u64 ((m.length : Int) + (l.length : Int))) (fun e => hD.ne.1 e.symm)).trans hD.hc
  have hown := own_heapS hD.own (w' := w.setCell ⟨d, 2, none⟩ (.int .u64 ((m.length : Int) + (l.length : Int)))) (fun g hg => heap_setCell_other w _ g _ (fun e => hD.ne.2.1 (hg.trans (congrArg some e))))
  have hrr := range_heap hr (w' := w.setCell ⟨d, 2, none⟩ (.int .u64 ((m.length : Int) + (l.length : Int)))) (heap_setCell_other w _ b _ hbd)
  have hbel := (Below.refl B w).setCell (p := ⟨d, 2, none⟩) hD.lo.1 (.int .u64 ((m.length : Int) + (l.length : Int)))
  have hsz2 : (w.setCell ⟨d, 2, none⟩ (.int .u64 ((m.length : Int) + (l.length : Int)))).heap.size = w.heap.size := by simp
  have HDC := Lib.hid hdc
  have HHC := Lib.hid hhc
  have HOWN := Lib.hid hown
  have HNW := Lib.hid (show ∀ j u, (Lib.byteCells l)[j]? = some u → (w.setCell ⟨d, 2, none⟩ (.int .u64 ((m.length : Int) + (l.length : Int)))).cell? ((⟨b, o, none⟩ : Addr).add j) = some u from fun j u hj => by rw [Addr.add_mid]; exact hrr j u hj)
  have HNL := Lib.hid (Lib.byteCells_length l)
  have HNB := Lib.hid (show m.length % 64 + l.length ≤ 1000 by omega)
  have HBWS := Lib.hid (show B ≤ (w.setCell ⟨d, 2, none⟩ (.int .u64 ((m.length : Int) + (l.length : Int)))).heap.size by rw [hsz2]; exact hBw)
  have HLD := Lib.hid (show d < (w.setCell ⟨d, 2, none⟩ (.int .u64 ((m.length : Int) + (l.length : Int)))).heap.size by rw [hsz2]; exact ld)
  have HBEL := Lib.hid hbel
  have HH0 := Lib.hid h0
  clear hD hr h1 h0 p1 p2 p3 hdc hhc hown hrr hbel hsz2
  generalize hrm : m.length % 64 = r at *
  have HRM := Lib.hid hrm
  clear hrm
  go_enter Tryz.func97, Tryz.ntmps97
  go_upto_region 2 with fail
  clear d0 d2 f2
  generalize w.setCell ⟨d, 2, none⟩ (.int .u64 ((m.length : Int) + (l.length : Int))) = ws at *
  have d1 := cell_of HDC.out 1 (v := .slice ao r cp) rfl
  have f1 := frozen_row HDC.out 1
  have ld2 := HLD.out
  have ddr : ws.drew.cell? ⟨d, 1, none⟩ = some (.slice ao r cp) := d1
  go_upto_region 4 with fail
  refine wp_region_any (by kernel_rfl) ?_
  change wpAny _ _ _ _ _ _ _ (World.drew _)
  refine wpAny_take (i := 0) (v := .pointer (some ⟨d, 0, none⟩)) rfl (by kernel_rfl) (by kernel_rfl) (by kernel_rfl) (fun _ _ _ h => h) (Or.inl ⟨by rfl, ?_⟩) ?_
  · intro w
    go_simp
  simp only [List.getElem_toArray, List.getElem_cons_zero, Act.put, List.setIfInBounds_toArray, List.set_cons_zero, List.set_cons_succ]
  refine wpAny_take (i := 1) (v := .pointer (some ⟨d, 0, none⟩)) rfl (by kernel_rfl) (by kernel_rfl) (by kernel_rfl) (fun _ _ _ h => h) (Or.inl ⟨by rfl, ?_⟩) ?_
  · intro w
    go_simp
  simp only [List.getElem_toArray, List.getElem_cons_succ, List.getElem_cons_zero, Act.put, List.setIfInBounds_toArray, List.set_cons_zero, List.set_cons_succ]
  refine wpAny_take (i := 2) (v := .pointer (some ⟨d, 0, none⟩)) rfl (by kernel_rfl) (by kernel_rfl) (by kernel_rfl) (fun _ _ _ h => h) (Or.inl ⟨by rfl, ?_⟩) ?_
  · intro w
    go_simp
  simp only [List.getElem_toArray, List.getElem_cons_succ, List.getElem_cons_zero, Act.put, List.setIfInBounds_toArray, List.set_cons_zero, List.set_cons_succ]
  refine wpAny_take (i := 3) (v := .pointer (some ⟨d, 1, none⟩)) rfl (by kernel_rfl) (by kernel_rfl) (by kernel_rfl) (fun _ _ _ h => h) (Or.inl ⟨by rfl, ?_⟩) ?_
  · intro w
    go_simp
  simp only [List.getElem_toArray, List.getElem_cons_succ, List.getElem_cons_zero, Act.put, List.setIfInBounds_toArray, List.set_cons_zero, List.set_cons_succ]
  refine wpAny_take (i := 5) (v := .slice (some ⟨b, o, none⟩) l.length cap) rfl (by kernel_rfl) (by kernel_rfl) (by kernel_rfl) (fun _ _ _ h => h) (Or.inl ⟨by rfl, ?_⟩) ?_
  · intro w
    go_simp
  simp only [List.getElem_toArray, List.getElem_cons_succ, List.getElem_cons_zero, Act.put, List.setIfInBounds_toArray, List.set_cons_zero, List.set_cons_succ]
  refine wpAny_take (i := 6) (v := .int .i64 (l.length : Int)) rfl (by kernel_rfl) (by kernel_rfl) (by kernel_rfl) (fun _ _ _ h => h) (Or.inl ⟨by rfl, ?_⟩) ?_
  · intro w
    go_simp
  simp only [List.getElem_toArray, List.getElem_cons_succ, List.getElem_cons_zero, Act.put, List.setIfInBounds_toArray, List.set_cons_zero, List.set_cons_succ]
  refine wpAny_take (i := 7) (v := .slice (some ⟨b, o, none⟩) l.length cap) rfl (by kernel_rfl) (by kernel_rfl) (by kernel_rfl) (fun _ _ _ h => h) (Or.inl ⟨by rfl, ?_⟩) ?_
  · intro w
    go_simp
  simp only [List.getElem_toArray, List.getElem_cons_succ, List.getElem_cons_zero, Act.put, List.setIfInBounds_toArray, List.set_cons_zero, List.set_cons_succ]
  refine wpAny_ready (rs := [4]) (by kernel_rfl) (by simp) ?_
  refine AllReady.cons rfl (fun K hK => ?_) AllReady.nil
  go_simp
  refine hK _ _ ?_
  clear hK K
  refine wpAny_ready (rs := [8]) (by kernel_rfl) (by simp) ?_
  refine AllReady.cons rfl (fun K hK => ?_) AllReady.nil
  refine step_append_bytes (by rfl) (.tmp 43) (.tmp 46) (by rfl) (by rfl) HOWN.out (by rfl) HNL.out HNW.out (byteCells_all' _) HNB.out HBWS.out ?_
  intro v' W5 g2 g3 g4
  obtain ⟨vo, vq, rfl⟩ := owns_anyH g2
  have G2 := Lib.hid g2
  have G4 := Lib.hid g4
  have e5 : W5.heap[d]? = ws.heap[d]? := g3.block d HLD.out (fun e => HNE.out.2.1 e.symm)
  have e6 : W5.heap[hb]? = ws.heap[hb]? := g3.block hb (lt_of_heap HHC.out) (fun e => HNE.out.2.2 e.symm)
  have E5 := Lib.hid (e5.trans HDC.out)
  have E6 := Lib.hid (e6.trans HHC.out)
  have G3 := Lib.hid g3
  have q1 := cell_of E5.out 1 (v := .slice ao r cp) rfl
  have q2 := frozen_row E5.out 1
  have q3 := lt_of_heap E5.out
  clear g2 g3 g4 e5 e6
  refine hK _ _ ?_
  clear hK K
  refine wpAny_take (i := 9) (v := .pointer (some ⟨d, 0, none⟩)) rfl (by kernel_rfl) (by kernel_rfl) (by kernel_rfl) (fun _ _ _ h => h) (Or.inl ⟨by rfl, ?_⟩) ?_
  · intro w
    go_simp
  simp only [List.getElem_toArray, List.getElem_cons_succ, List.getElem_cons_zero, Act.put, List.setIfInBounds_toArray, List.set_cons_zero, List.set_cons_succ]
  refine wpAny_take (i := 10) (v := .pointer (some ⟨d, 1, none⟩)) rfl (by kernel_rfl) (by kernel_rfl) (by kernel_rfl) (fun _ _ _ h => h) (Or.inl ⟨by rfl, ?_⟩) ?_
  · intro w
    go_simp
  simp only [List.getElem_toArray, List.getElem_cons_succ, List.getElem_cons_zero, Act.put, List.setIfInBounds_toArray, List.set_cons_zero, List.set_cons_succ]
  refine wpAny_ready (rs := [11]) (by kernel_rfl) (by simp) ?_
  refine AllReady.cons rfl (fun K hK => ?_) AllReady.nil
  go_simp
  refine hK _ _ ?_
  clear hK K
  refine wpAny_done (by kernel_rfl) ?_ _
  simp only [Exit.then]
  have HDF := Lib.hid (show (W5.setCell ⟨d, 1, none⟩ (.slice vo (r + l.length) vq)).heap[d]? = _ from set_heap3 (i := 1) (u := .slice vo (r + l.length) vq) E5.out)
  have hne5 : Value.ownBlock (.slice vo (r + l.length) vq) ≠ some d := ownBlock_neH G2.out E5.out (by decide)
  have HOF := Lib.hid (own_heapS G2.out (w' := W5.setCell ⟨d, 1, none⟩ (.slice vo (r + l.length) vq)) (fun g hg => heap_setCell_other W5 _ g _ (fun e => hne5 (hg.trans (congrArg some e)))))
  have HHF := Lib.hid ((heap_setCell_other W5 ⟨d, 1, none⟩ hb (.slice vo (r + l.length) vq) (fun e => HNE.out.1 e.symm)).trans E6.out)
  have HBF := Lib.hid ((HBEL.out.drew.grown G3.out HBWS.out (fun k hk => (HOWN.out.lt k hk).1)).setCell (p := ⟨d, 1, none⟩) HLO.out.1 (.slice vo (r + l.length) vq))
  clear q1 q2 q3 hne5 d1 f1 ddr
  generalize W5.setCell ⟨d, 1, none⟩ (.slice vo (r + l.length) vq) = wf at *
  have d1 := cell_of HDF.out 1 (v := .slice vo (r + l.length) vq) rfl
  have ldf := lt_of_heap HDF.out
  go_wp2_with fail
  all_goals
    refine bodyPost_ret (results_none rfl _ _ _) rfl ⟨rfl, ⟨.slice vo (r + l.length) vq, ?_, ?_, ?_, HLO.out⟩, HBF.out⟩
    · rw [show (((m ++ l).length : Nat) : Int) = (m.length : Int) + (l.length : Int) by rw [List.length_append]; omega]
      exact HDF.out
    · rw [HSO.out]
      exact HHF.out
    · rw [HP1.out, HP2.out, HP3.out, ← byteCells_app]
      exact HOF.out
end Go.Proofs.YticlgcfodlcpcaaGreatDoor

namespace Go.Proofs.YticlgcfodlcpcaaGreatDoor
open Go.RowKit

/-- The state of the digest while whole blocks are taken. -/
def WrS (B : Nat) (w : World) (d hb b o cap : Nat) (m l : List UInt8) (s1 : Value) (wx : World) : Prop :=
  ∃ (c off : Nat) (ao : Option Addr) (cp : Nat), (m.length + c) % 64 = 0 ∧ c ≤ l.length ∧ s1 = .slice (some ⟨b, off, none⟩) (l.length - c) (cap - c) ∧ (c < l.length → off = o + c) ∧
    wx.heap[d]? = some (.cells #[.pointer (some ⟨hb, 0, none⟩), .slice ao 0 cp, .int .u64 ((m.length : Int) + (l.length : Int))] 225) ∧
    wx.heap[hb]? = some (.cells (u32s (stL (St.start.blocks (m ++ l) ((m.length + c) / 64)))) 180) ∧
    wx.ownsRow B 5 1 (.slice ao 0 cp) 0 [] ∧ wx.rangeAt b o (Lib.byteCells l) ∧ Below B w wx
theorem own_zero {B : Nat} {w : World} {e : TypeId} {size n cp : Nat} {ao : Option Addr} {xs : List Value} (h : w.ownsRow B e size (.slice ao n cp) n xs) : w.ownsRow B e size (.slice ao 0 cp) 0 [] := by
  refine ⟨by simp, ?_⟩
  rcases h.2 with ⟨h1, _⟩ | ⟨g, cap, cur, h1, hg, hh, hc, hm, hs, _⟩
  · injection h1 with h1 h2 h3
    exact .inl ⟨by rw [h1, h3], rfl⟩
  · injection h1 with h1 h2 h3
    subst h1 h3
    exact .inr ⟨g, cp, cur, rfl, hg, hh, Nat.zero_le _, hm, hs, by simp⟩
theorem tab_bel {B : Nat} {w w' : World} (h : TabSha w) (hb : Below B w w') (hg : 21 < B) : TabSha w' := by
  obtain ⟨t, fr, hh⟩ := h
  exact ⟨t, fr, (hb.block _ hg).trans hh⟩
theorem range_part {w : World} {b o : Nat} {l : List UInt8} (h : w.rangeAt b o (Lib.byteCells l)) (c n : Nat) : w.rangeAt b (o + c) (Lib.byteCells ((l.drop c).take n)) := by
  intro j v hv
  have e : (Lib.byteCells l)[c + j]? = some v := by
    unfold Lib.byteCells at *
    rw [List.getElem?_map, List.getElem?_take] at hv
    rw [List.getElem?_map]
    split at hv
    · rw [List.getElem?_drop] at hv
      exact hv
    · simp at hv
  have := h _ _ e
  rwa [← Nat.add_assoc] at this
theorem drop_past (m l : List UInt8) (c : Nat) (h : (m.length + c) % 64 = 0) : (m ++ l).drop (64 * ((m.length + c) / 64)) = l.drop c := by
  rw [show 64 * ((m.length + c) / 64) = m.length + c by omega, List.drop_append, List.drop_of_length_le (by omega), List.nil_append]
  congr 1
  omega
theorem own_range {B : Nat} {w : World} {e : TypeId} {n : Nat} {v : Value} {l : List UInt8} (h : w.ownsRow B e 1 v n (Lib.byteCells l)) (hn : 0 < n) : ∃ g cap, v = .slice (some ⟨g, 0, none⟩) n cap ∧ B ≤ g ∧ n ≤ cap ∧ g < w.heap.size ∧ w.rangeAt g 0 (Lib.byteCells l) := by
  rcases h.2 with ⟨_, h1⟩ | ⟨g, cap, cur, rfl, hg, hh, hc, hm, hs, ht⟩
  · omega
  · refine ⟨g, cap, rfl, hg, hc, lt_of_heap hh, fun j v hv => ?_⟩
    rw [Nat.zero_add]
    refine cell_of hh j ?_
    rw [← ht, List.getElem?_take] at hv
    split at hv
    · rw [← Array.getElem?_toList]
      exact hv
    · simp at hv
theorem fill_blk (m l : List UInt8) (K : Nat) (hr : m.length % 64 + K = 64) (hK : K ≤ l.length) : St.start.blocks (m ++ l) ((m.length + K) / 64) = (stOf m).block (m.drop (64 * (m.length / 64)) ++ l.take K) ∧ (m.drop (64 * (m.length / 64)) ++ l.take K).length = 64 := by
  have e : (m.length + K) / 64 = m.length / 64 + 1 := by omega
  rw [e, St.blocks, blocks_app _ _ _ _ (by omega), List.drop_append_of_le_length (by omega), List.take_append]
  have hl : (m.drop (64 * (m.length / 64))).length = 64 - K := by rw [List.length_drop]; omega
  rw [List.take_of_length_le (by omega), hl, show 64 - (64 - K) = K by omega]
  exact ⟨rfl, by rw [List.length_append, hl, List.length_take]; omega⟩
theorem next_blk (m l : List UInt8) (c : Nat) (h : (m.length + c) % 64 = 0) (hc : c + 64 ≤ l.length) : St.start.blocks (m ++ l) ((m.length + (c + 64)) / 64) = (St.start.blocks (m ++ l) ((m.length + c) / 64)).block ((l.drop c).take 64) ∧ ((l.drop c).take 64).length = 64 := by
  have e : (m.length + (c + 64)) / 64 = (m.length + c) / 64 + 1 := by omega
  rw [e, St.blocks, drop_past m l c h]
  exact ⟨rfl, by rw [List.length_take, List.length_drop]; omega⟩
set_option maxHeartbeats 8000000 in
set_option maxRecDepth 100000 in
theorem write_more (B d hb : Nat) (rv : Value) (m l : List UInt8) (b o cap : Nat) (w : World) (hD : Dig B w d hb rv m) (hr : w.rangeAt b o (Lib.byteCells l)) (hcap : l.length ≤ cap) (hbd : b ≠ d) (hbh : b ≠ hb) (hbr : rv.ownBlock ≠ some b) (hBw : B ≤ w.heap.size) (hbw : b < w.heap.size)
    (htab : TabSha w) (hgB : 21 < B) (hsz : m.length + l.length ≤ 4611686018427387904) (h1 : m.length % 64 = 0 ∨ 64 ≤ m.length % 64 + l.length) :
    Calls Tryz.prog 97 #[.pointer (some ⟨d, 0, none⟩), .slice (some ⟨b, o, none⟩) l.length cap] w fun e w' => e = .returned (.tuple #[]) ∧ ∃ rv', Dig B w' d hb rv' (m ++ l) ∧ Below B w w' := by
  obtain ⟨ao, cp, rfl⟩ := owns_anyH hD.own
  have HNE := Lib.hid hD.ne
  have d0 := cell_of hD.dc 0 (v := .pointer (some ⟨hb, 0, none⟩)) rfl
  have d2 := cell_of hD.dc 2 (v := .int .u64 (m.length : Int)) rfl
  have f2 := frozen_row hD.dc 2
  have ld := lt_of_heap hD.dc
  have hwl : IntKind.wrap .u64 (l.length : Int) = (l.length : Int) := u64_wrapS _ (by omega) (by omega)
  have hws : IntKind.wrap .u64 ((m.length : Int) + (l.length : Int)) = (m.length : Int) + (l.length : Int) := u64_wrapS _ (by omega) (by omega)
  have HLO := Lib.hid hD.lo
  have HDC := Lib.hid (set_heap3 (i := 2) (u := .int .u64 ((m.length : Int) + (l.length : Int))) hD.dc)
  have HHC := Lib.hid ((heap_setCell_other w ⟨d, 2, none⟩ hb (.int .u64 ((m.length : Int) + (l.length : Int))) (fun e => hD.ne.1 e.symm)).trans hD.hc)
  have HOWN := Lib.hid (own_heapS hD.own (w' := w.setCell ⟨d, 2, none⟩ (.int .u64 ((m.length : Int) + (l.length : Int)))) (fun g hg => heap_setCell_other w _ g _ (fun e => hD.ne.2.1 (hg.trans (congrArg some e)))))
  have HRR := Lib.hid (range_heap hr (w' := w.setCell ⟨d, 2, none⟩ (.int .u64 ((m.length : Int) + (l.length : Int)))) (heap_setCell_other w _ b _ hbd))
  have HBEL := Lib.hid ((Below.refl B w).setCell (p := ⟨d, 2, none⟩) hD.lo.1 (.int .u64 ((m.length : Int) + (l.length : Int))))
  have hsz2 : (w.setCell ⟨d, 2, none⟩ (.int .u64 ((m.length : Int) + (l.length : Int)))).heap.size = w.heap.size := by simp
  have HBWS := Lib.hid (show B ≤ (w.setCell ⟨d, 2, none⟩ (.int .u64 ((m.length : Int) + (l.length : Int)))).heap.size by rw [hsz2]; exact hBw)
  have HLD := Lib.hid (show d < (w.setCell ⟨d, 2, none⟩ (.int .u64 ((m.length : Int) + (l.length : Int)))).heap.size by rw [hsz2]; exact ld)
  have HLB := Lib.hid (show b < (w.setCell ⟨d, 2, none⟩ (.int .u64 ((m.length : Int) + (l.length : Int)))).heap.size by rw [hsz2]; exact hbw)
  have HTB := Lib.hid htab
  have HBR := Lib.hid hbr
  have HH1 := Lib.hid h1
  have HBB := Lib.hid hgB
  have HBD := Lib.hid hbd
  have HBH := Lib.hid hbh
  clear hD hr h1 hsz2 htab hbr hgB
  generalize hrm : m.length % 64 = r at *
  have HRM := Lib.hid hrm
  clear hrm
  go_enter Tryz.func97, Tryz.ntmps97
  go_upto_region 2 with fail
  clear d0 d2 f2
  generalize w.setCell ⟨d, 2, none⟩ (.int .u64 ((m.length : Int) + (l.length : Int))) = ws at *
  have d1 := cell_of HDC.out 1 (v := .slice ao r cp) rfl
  have f1 := frozen_row HDC.out 1
  have d0 := cell_of HDC.out 0 (v := .pointer (some ⟨hb, 0, none⟩)) rfl
  have ld2 := HLD.out
  go_upto_if 29 with fail
  go_cut [1] (fun s1 wx => WrS B w d hb b o cap m l s1 wx)
  case first =>
    by_cases h0 : r = 0
    · have hz : ¬ (0 : Int) < (r : Int) := by omega
      have HC2 := Lib.hid (show (m.length + 0) % 64 = 0 ∧ St.start.blocks (m ++ l) ((m.length + 0) / 64) = stOf m from ⟨by rw [Nat.add_zero, HRM.out, h0], blocks_app _ _ _ _ (by omega)⟩)
      have HZ := Lib.hid h0
      clear h0
      go_wp2_with fail
      go_meet
      rw [HZ.out] at HDC HOWN
      refine ⟨0, o, ao, cp, HC2.out.1, Nat.zero_le _, rfl, fun _ => rfl, HDC.out, ?_, own_zero HOWN.out, HRR.out, HBEL.out⟩
      rw [HC2.out.2]
      exact HHC.out
    · obtain ⟨K, hK⟩ : ∃ K, r + K = 64 := ⟨64 - r, by have := HRM.out; omega⟩
      have hz : (0 : Int) < (r : Int) := by omega
      have hKl : K ≤ l.length := by have := HH1.out; omega
      have hw0 : IntKind.wrap .i64 (64 - (r : Int)) = (K : Int) := (IntWalk.i64_in _ (by omega)).trans (by omega)
      have hmin : min (K : Int) (l.length : Int) = (K : Int) := by omega
      have hK0 : (0 : Int) ≤ (K : Int) := by omega
      have hKc : (K : Int) ≤ (cap : Int) := by omega
      have hKL : (K : Int) ≤ (l.length : Int) := by omega
      have H64 := Lib.hid hK
      obtain ⟨FB1, FB2⟩ := fill_blk m l K (by rw [HRM.out]; exact hK) hKl
      have HNW := Lib.hid (show ∀ j u, (Lib.byteCells (l.take K))[j]? = some u → ws.cell? ((⟨b, o, none⟩ : Addr).add j) = some u from fun j u hj => by
        rw [Addr.add_mid]
        refine HRR.out j u ?_
        unfold Lib.byteCells at *
        rw [List.getElem?_map, List.getElem?_take] at hj
        rw [List.getElem?_map]
        split at hj
        · exact hj
        · simp at hj)
      have HNL := Lib.hid (show (Lib.byteCells (l.take K)).length = K by rw [Lib.byteCells_length, List.length_take]; omega)
      have HNB := Lib.hid (show r + K ≤ 1000 by omega)
      have HFB := Lib.hid FB1
      have HFL := Lib.hid FB2
      clear FB1 FB2
      have ddr : ws.drew.cell? ⟨d, 1, none⟩ = some (.slice ao r cp) := d1
      go_upto_region 4 with fail
      refine wp_region_any (by kernel_rfl) ?_
      change wpAny _ _ _ _ _ _ _ (World.drew _)
      refine wpAny_take (i := 0) (v := .pointer (some ⟨d, 0, none⟩)) rfl (by kernel_rfl) (by kernel_rfl) (by kernel_rfl) (fun _ _ _ h => h) (Or.inl ⟨by rfl, ?_⟩) ?_
      · intro w
        go_simp
      simp only [List.getElem_toArray, List.getElem_cons_zero, Act.put, List.setIfInBounds_toArray, List.set_cons_zero, List.set_cons_succ]
      refine wpAny_take (i := 1) (v := .pointer (some ⟨d, 0, none⟩)) rfl (by kernel_rfl) (by kernel_rfl) (by kernel_rfl) (fun _ _ _ h => h) (Or.inl ⟨by rfl, ?_⟩) ?_
      · intro w
        go_simp
      simp only [List.getElem_toArray, List.getElem_cons_succ, List.getElem_cons_zero, Act.put, List.setIfInBounds_toArray, List.set_cons_zero, List.set_cons_succ]
      refine wpAny_take (i := 2) (v := .pointer (some ⟨d, 0, none⟩)) rfl (by kernel_rfl) (by kernel_rfl) (by kernel_rfl) (fun _ _ _ h => h) (Or.inl ⟨by rfl, ?_⟩) ?_
      · intro w
        go_simp
      simp only [List.getElem_toArray, List.getElem_cons_succ, List.getElem_cons_zero, Act.put, List.setIfInBounds_toArray, List.set_cons_zero, List.set_cons_succ]
      refine wpAny_take (i := 3) (v := .pointer (some ⟨d, 1, none⟩)) rfl (by kernel_rfl) (by kernel_rfl) (by kernel_rfl) (fun _ _ _ h => h) (Or.inl ⟨by rfl, ?_⟩) ?_
      · intro w
        go_simp
      simp only [List.getElem_toArray, List.getElem_cons_succ, List.getElem_cons_zero, Act.put, List.setIfInBounds_toArray, List.set_cons_zero, List.set_cons_succ]
      refine wpAny_take (i := 5) (v := .slice (some ⟨b, o, none⟩) l.length cap) rfl (by kernel_rfl) (by kernel_rfl) (by kernel_rfl) (fun _ _ _ h => h) (Or.inl ⟨by rfl, ?_⟩) ?_
      · intro w
        go_simp
      simp only [List.getElem_toArray, List.getElem_cons_succ, List.getElem_cons_zero, Act.put, List.setIfInBounds_toArray, List.set_cons_zero, List.set_cons_succ]
      refine wpAny_take (i := 6) (v := .int .i64 (K : Int)) rfl (by kernel_rfl) (by kernel_rfl) (by kernel_rfl) (fun _ _ _ h => h) (Or.inl ⟨by rfl, ?_⟩) ?_
      · intro w
        go_simp
      simp only [List.getElem_toArray, List.getElem_cons_succ, List.getElem_cons_zero, Act.put, List.setIfInBounds_toArray, List.set_cons_zero, List.set_cons_succ]
      refine wpAny_take (i := 7) (v := .slice (some ⟨b, o, none⟩) K cap) rfl (by kernel_rfl) (by kernel_rfl) (by kernel_rfl) (fun _ _ _ h => h) (Or.inl ⟨by rfl, ?_⟩) ?_
      · intro w
        go_simp
      simp only [List.getElem_toArray, List.getElem_cons_succ, List.getElem_cons_zero, Act.put, List.setIfInBounds_toArray, List.set_cons_zero, List.set_cons_succ]
      refine wpAny_ready (rs := [4]) (by kernel_rfl) (by simp) ?_
      refine AllReady.cons rfl (fun K hK => ?_) AllReady.nil
      go_simp
      refine hK _ _ ?_
      clear hK K
      refine wpAny_ready (rs := [8]) (by kernel_rfl) (by simp) ?_
      refine AllReady.cons rfl (fun K hK => ?_) AllReady.nil
      refine step_append_bytes (by rfl) (.tmp 43) (.tmp 46) (by rfl) (by rfl) HOWN.out (by rfl) HNL.out HNW.out (byteCells_all' _) HNB.out HBWS.out ?_
      intro v' W5 g2 g3 g4
      rw [H64.out] at g2
      obtain ⟨vo, vq, rfl⟩ := owns_anyH g2
      have G2 := Lib.hid g2
      have G4 := Lib.hid g4
      have e5 : W5.heap[d]? = ws.heap[d]? := g3.block d HLD.out (fun e => HNE.out.2.1 e.symm)
      have e6 : W5.heap[hb]? = ws.heap[hb]? := g3.block hb (lt_of_heap HHC.out) (fun e => HNE.out.2.2 e.symm)
      have E5 := Lib.hid (e5.trans HDC.out)
      have E6 := Lib.hid (e6.trans HHC.out)
      have G3 := Lib.hid g3
      have q1 := cell_of E5.out 1 (v := .slice ao r cp) rfl
      have q2 := frozen_row E5.out 1
      have q3 := lt_of_heap E5.out
      clear g2 g3 g4 e5 e6
      refine hK _ _ ?_
      clear hK K
      refine wpAny_take (i := 9) (v := .pointer (some ⟨d, 0, none⟩)) rfl (by kernel_rfl) (by kernel_rfl) (by kernel_rfl) (fun _ _ _ h => h) (Or.inl ⟨by rfl, ?_⟩) ?_
      · intro w
        go_simp
      simp only [List.getElem_toArray, List.getElem_cons_succ, List.getElem_cons_zero, Act.put, List.setIfInBounds_toArray, List.set_cons_zero, List.set_cons_succ]
      refine wpAny_take (i := 10) (v := .pointer (some ⟨d, 1, none⟩)) rfl (by kernel_rfl) (by kernel_rfl) (by kernel_rfl) (fun _ _ _ h => h) (Or.inl ⟨by rfl, ?_⟩) ?_
      · intro w
        go_simp
      simp only [List.getElem_toArray, List.getElem_cons_succ, List.getElem_cons_zero, Act.put, List.setIfInBounds_toArray, List.set_cons_zero, List.set_cons_succ]
      refine wpAny_ready (rs := [11]) (by kernel_rfl) (by simp) ?_
      refine AllReady.cons rfl (fun K hK => ?_) AllReady.nil
      go_simp
      refine hK _ _ ?_
      clear hK K
      refine wpAny_done (by kernel_rfl) ?_ _
      simp only [Exit.then]
      have HDF := Lib.hid (show (W5.setCell ⟨d, 1, none⟩ (.slice vo 64 vq)).heap[d]? = _ from set_heap3 (i := 1) (u := .slice vo 64 vq) E5.out)
      have hne5 : Value.ownBlock (.slice vo 64 vq) ≠ some d := ownBlock_neH G2.out E5.out (by decide)
      have HOF := own_heapS G2.out (w' := W5.setCell ⟨d, 1, none⟩ (.slice vo 64 vq)) (fun g hg => heap_setCell_other W5 _ g _ (fun e => hne5 (hg.trans (congrArg some e))))
      have HHF := Lib.hid ((heap_setCell_other W5 ⟨d, 1, none⟩ hb (.slice vo 64 vq) (fun e => HNE.out.1 e.symm)).trans E6.out)
      have HBF := Lib.hid ((HBEL.out.drew.grown G3.out HBWS.out (fun k hk => (HOWN.out.lt k hk).1)).setCell (p := ⟨d, 1, none⟩) HLO.out.1 (.slice vo 64 vq))
      have HRF := Lib.hid (range_heap HRR.out (w' := W5.setCell ⟨d, 1, none⟩ (.slice vo 64 vq)) ((heap_setCell_other W5 ⟨d, 1, none⟩ b (.slice vo 64 vq) hbd).trans (G3.out.block b HLB.out (fun e => HBR.out e.symm))))
      clear q1 q2 q3 hne5 d1 f1 ddr
      have HSZ := Lib.hid (show w.heap.size ≤ (W5.setCell ⟨d, 1, none⟩ (.slice vo 64 vq)).heap.size from HBF.out.size)
      generalize W5.setCell ⟨d, 1, none⟩ (.slice vo 64 vq) = wf at *
      clear HNW HNL HNB HOWN HRR HBEL HBWS HDC HHC
      rw [byteCells_app] at HOF
      obtain ⟨rg, rq, ev, hrB, hrq, hrg, hrr⟩ := own_range HOF (by decide)
      injection ev with ev1 ev2 ev3
      subst ev1 ev3
      have HOF := Lib.hid HOF
      have hq0 : (0 : Int) ≤ (vq : Int) := by omega
      have d1 := cell_of HDF.out 1 (v := .slice (some ⟨rg, 0, none⟩) 64 vq) rfl
      have d0 := cell_of HDF.out 0 (v := .pointer (some ⟨hb, 0, none⟩)) rfl
      have ldf := lt_of_heap HDF.out
      have HBK := Lib.hid (block_any (stOf m) (m.drop (64 * (m.length / 64)) ++ l.take K) hb rg 0 vq wf.drew (St.Ok.blocks St.Ok.start _ _) HFL.out HHF.out hrr (tab_bel HTB.out HBF.out.drew HBB.out))
      clear hrr hrg
      go_upto_region 7 with fail
      go_still_tail 8, (by kernel_rfl)
      go_wp2_with (go_at_call 132; refine HBK.out.mono ?_)
      all_goals
        first
          | rintro e wC rfl hst hgr
          | rintro e wC ⟨rfl, hst, hgr⟩
        have hdC : wC.heap[d]? = _ := (hgr.block d ldf (fun e => HNE.out.1 (Option.some.inj e))).trans HDF.out
        have hbC : wC.heap[b]? = wf.heap[b]? := hgr.block b (Nat.lt_of_lt_of_le hbw HSZ.out) (fun e => HBH.out (Option.some.inj e))
        have HN2 := ownBlock_neH HOF.out HHF.out (by decide)
        have HOC := own_zero (own_heapS (w' := wC) HOF.out (fun g hg => hgr.block g (HOF.out.lt g hg).2 (fun e => HN2 (hg.trans e))))
        have HDS := Lib.hid (show (wC.setCell ⟨d, 1, none⟩ (.slice (some ⟨rg, 0, none⟩) 0 vq)).heap[d]? = _ from set_heap3 (i := 1) (u := .slice (some ⟨rg, 0, none⟩) 0 vq) hdC)
        have hneC : Value.ownBlock (.slice (some ⟨rg, 0, none⟩) 0 vq) ≠ some d := ownBlock_neH HOC hdC (by decide)
        have HOS := Lib.hid (own_heapS HOC (w' := wC.setCell ⟨d, 1, none⟩ (.slice (some ⟨rg, 0, none⟩) 0 vq)) (fun g hg => heap_setCell_other wC _ g _ (fun e => hneC (hg.trans (congrArg some e)))))
        have HHS := Lib.hid ((heap_setCell_other wC ⟨d, 1, none⟩ hb (.slice (some ⟨rg, 0, none⟩) 0 vq) (fun e => HNE.out.1 e.symm)).trans hst)
        have HRS := Lib.hid (range_heap HRF.out (w' := wC.setCell ⟨d, 1, none⟩ (.slice (some ⟨rg, 0, none⟩) 0 vq)) ((heap_setCell_other wC ⟨d, 1, none⟩ b (.slice (some ⟨rg, 0, none⟩) 0 vq) hbd).trans hbC))
        have HBS := Lib.hid ((HBF.out.drew.grown hgr (Nat.le_trans hBw HSZ.out) (fun k hk => by obtain rfl := Option.some.inj hk; exact HLO.out.2)).setCell (p := ⟨d, 1, none⟩) HLO.out.1 (.slice (some ⟨rg, 0, none⟩) 0 vq))
        have d1 := cell_of hdC 1 (v := .slice (some ⟨rg, 0, none⟩) 64 vq) rfl
        have f1 := frozen_row hdC 1
        have ldc := lt_of_heap hdC
        have HM6 := Lib.hid (show (m.length + K) % 64 = 0 by have := HRM.out; omega)
        clear hdC hbC HN2 HOC hneC hst hgr d0 ldf
        go_wp2_with fail
        go_meet
        first
          | refine ⟨K, o + K, some ⟨rg, 0, none⟩, vq, HM6.out, by omega, rfl, fun _ => rfl, HDS.out, ?_, HOS.out, HRS.out, HBS.out⟩
          | refine ⟨K, o, some ⟨rg, 0, none⟩, vq, HM6.out, by omega, by rw [show cap - K = 0 by omega], fun h => by omega, HDS.out, ?_, HOS.out, HRS.out, HBS.out⟩
        rw [HFB.out]
        exact HHS.out
  case rest =>
    clear d0 d1 f1
    obtain ⟨c, off, ao1, cp1, hc64, hcl, rfl, hoff, hdc, hhc, hown, hrr, hbel⟩ := hcut
    rename World => wA
    clear HDC HHC HOWN HRR HBEL
    obtain ⟨i0, hi, hz0, hz1, hz2⟩ := info_parts Tryz.infoByte
    have HRL := Lib.hid (show WrS B w d hb b o cap m l (.slice (some ⟨b, off, none⟩) (l.length - c) (cap - c)) wA from ⟨c, off, ao1, cp1, hc64, hcl, rfl, hoff, hdc, hhc, hown, hrr, hbel⟩)
    clear hc64 hcl hoff hdc hhc hown hrr hbel ld2
    go_wp2_with fail
    go_loopw [1] (fun s1 wx => WrS B w d hb b o cap m l s1 wx) (fun s1 _ => sliceLen s1)
    case atStart => exact HRL.out
    case round =>
      obtain ⟨c, off, ao1, cp1, hc64, hcl, rfl, hoff, hdc, hhc, hown, hrr, hbel⟩ := hrel
      rename World => wB
      clear HRL
      by_cases h64 : 64 ≤ l.length - c
      · have h64i : ((l.length - c : Nat) : Int) ≥ 64 := by omega
        have h64c : (64 : Int) ≤ ((cap - c : Nat) : Int) := by omega
        have h64l : (64 : Int) ≤ ((l.length - c : Nat) : Int) := by omega
        obtain rfl := hoff (by omega)
        obtain ⟨NB1, NB2⟩ := next_blk m l c hc64 (by omega)
        have c0 := cell_of hdc 0 (v := .pointer (some ⟨hb, 0, none⟩)) rfl
        have lB := lt_of_heap hdc
        have HN2 := Lib.hid (ownBlock_neH hown hhc (by decide))
        have HBK := Lib.hid (block_any (St.start.blocks (m ++ l) ((m.length + c) / 64)) ((l.drop c).take 64) hb b (o + c) (cap - c) wB.drew (St.Ok.blocks St.Ok.start _ _) NB2 hhc (range_part hrr c 64) (tab_bel HTB.out hbel.drew HBB.out))
        have HNB := Lib.hid NB1
        have HD1 := Lib.hid hdc
        have HO1 := Lib.hid hown
        have HR1 := Lib.hid hrr
        have HB1 := Lib.hid hbel
        have HC6 := Lib.hid hc64
        clear NB1 NB2 hdc hhc hown hrr hbel hc64 hoff
        go_upto_region 10 with fail
        go_still_tail 6, (by kernel_rfl)
        go_wp2_with (go_at_call 132; refine HBK.out.mono ?_)
        rintro e wC ⟨rfl, hst, hgr⟩
        have hdC : wC.heap[d]? = _ := (hgr.block d lB (fun e => HNE.out.1 (Option.some.inj e))).trans HD1.out
        have hbC : wC.heap[b]? = wB.heap[b]? := hgr.block b (Nat.lt_of_lt_of_le hbw HB1.out.size) (fun e => HBH.out (Option.some.inj e))
        have HRN := Lib.hid (show ∀ f, (c + 64 < l.length → f = o + (c + 64)) → WrS B w d hb b o cap m l (.slice (some ⟨b, f, none⟩) (l.length - (c + 64)) (cap - (c + 64))) wC from fun f hf => ⟨c + 64, f, ao1, cp1, by have := HC6.out; omega, by omega, rfl, hf, hdC, by rw [HNB.out]; exact hst, own_zero (own_heapS (w' := wC) HO1.out (fun g hg => hgr.block g (HO1.out.lt g hg).2 (fun e => HN2.out (hg.trans e)))), range_heap HR1.out hbC, (HB1.out.drew.grown hgr (Nat.le_trans hBw HB1.out.size) (fun k hk => by obtain rfl := Option.some.inj hk; exact HLO.out.2))⟩)
        clear hdC hbC hst hgr c0 lB
        go_wp2_with fail
        refine ⟨?_, by simp only [sliceLen]; omega⟩
        rw [Nat.sub_sub, Nat.sub_sub]
        split
        · exact HRN.out _ (fun h => by omega)
        · exact HRN.out _ (fun _ => rfl)
      · have h64i : ¬ ((l.length - c : Nat) : Int) ≥ 64 := by omega
        have d0 := cell_of hdc 0 (v := .pointer (some ⟨hb, 0, none⟩)) rfl
        have d1 := cell_of hdc 1 (v := .slice ao1 0 cp1) rfl
        have lB := lt_of_heap hdc
        have HD1 := Lib.hid hdc
        have HS1 := Lib.hid hhc
        have HO1 := Lib.hid hown
        have HB1 := Lib.hid hbel
        have HC6 := Lib.hid hc64
        have HN1 := Lib.hid (ownBlock_neH hown hdc (by decide))
        have HN2 := Lib.hid (ownBlock_neH hown hhc (by decide))
        have HNW := Lib.hid (show ∀ j u, (Lib.byteCells (l.drop c))[j]? = some u → wB.cell? ((⟨b, off, none⟩ : Addr).add j) = some u from fun j u hj => by
          rw [Addr.add_mid]
          have hlt : c < l.length := by
            refine Nat.lt_of_not_le fun hge => ?_
            rw [List.drop_of_length_le hge] at hj
            simp [Lib.byteCells] at hj
          rw [hoff hlt]
          have e : (Lib.byteCells l)[c + j]? = some u := by
            unfold Lib.byteCells at *
            rw [List.getElem?_map, List.getElem?_drop] at hj
            rw [List.getElem?_map]
            exact hj
          have := hrr _ _ e
          rwa [← Nat.add_assoc] at this)
        have HNL := Lib.hid (show (Lib.byteCells (l.drop c)).length = l.length - c by rw [Lib.byteCells_length, List.length_drop])
        clear hdc hhc hown hrr hbel hc64 hoff
        go_wp2_with (at_builtin; refine wpList_append_own _ rfl _ _ 117 rfl B 5 i0 (.int .u8 0) 1 1 Tryz.underlying117 hi hz0 hz1 hz2 rfl (by decide) _ _ _ rfl HO1.out ⟨b, off, none⟩ (l.length - c) (cap - c) (Lib.byteCells (l.drop c)) rfl (by rw [HNL.out]; omega) HNW.out (byteCells_all' _) ?c3 ?c4 ?c5 ?_)
        case c3 => unfold maxLen; omega
        case c4 => omega
        case c5 => exact Nat.le_trans hBw HB1.out.size
        intro v' W5 g2 g3 g4
        obtain ⟨vo, vq, rfl⟩ := owns_anyH g2
        have E5 := (g3.block d (lt_of_heap HD1.out) (fun e => HN1.out e.symm)).trans HD1.out
        have E6 := (g3.block hb (lt_of_heap HS1.out) (fun e => HN2.out e.symm)).trans HS1.out
        have hne5 := ownBlock_neH g2 E5 (by decide)
        have q1 := cell_of E5 1 (v := .slice ao1 0 cp1) rfl
        have q2 := frozen_row E5 1
        have q3 := lt_of_heap E5
        have HB5 := Lib.hid (HB1.out.grown g3 (Nat.le_trans hBw HB1.out.size) (fun k hk => (HO1.out.lt k hk).1))
        have HDF := Lib.hid (show (W5.setCell ⟨d, 1, none⟩ (.slice vo (0 + (l.length - c)) vq)).heap[d]? = _ from set_heap3 (i := 1) (u := .slice vo (0 + (l.length - c)) vq) E5)
        have HOF := Lib.hid (own_heapS g2 (w' := W5.setCell ⟨d, 1, none⟩ (.slice vo (0 + (l.length - c)) vq)) (fun g hg => heap_setCell_other W5 _ g _ (fun e => hne5 (hg.trans (congrArg some e)))))
        have HHF := Lib.hid ((heap_setCell_other W5 ⟨d, 1, none⟩ hb (.slice vo (0 + (l.length - c)) vq) (fun e => HNE.out.1 e.symm)).trans E6)
        have HBF := Lib.hid (HB5.out.setCell (p := ⟨d, 1, none⟩) HLO.out.1 (.slice vo (0 + (l.length - c)) vq))
        clear E5 E6 hne5 g2 g3 g4 d0 d1 lB
        rw [Nat.zero_add, ← drop_past m l c HC6.out] at HOF
        rw [Nat.zero_add] at HDF HHF HBF
        have HCE := Lib.hid (show (m ++ l).length / 64 = (m.length + c) / 64 ∧ (m ++ l).length % 64 = l.length - c by have := HC6.out; rw [List.length_append]; omega)
        go_wp2_with fail
        all_goals
          go_end0
          refine ⟨rfl, .slice vo (l.length - c) vq, ⟨?_, ?_, ?_, HLO.out⟩, HBF.out⟩
          · rw [show (((m ++ l).length : Nat) : Int) = (m.length : Int) + (l.length : Int) by rw [List.length_append]; omega]
            exact HDF.out
          · rw [stOf, HCE.out.1]
            exact HHF.out
          · rw [HCE.out.1, HCE.out.2]
            exact HOF.out
end Go.Proofs.YticlgcfodlcpcaaGreatDoor
