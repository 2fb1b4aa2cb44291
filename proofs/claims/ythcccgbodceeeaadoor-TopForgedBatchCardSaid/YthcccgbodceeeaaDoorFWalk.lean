/-
  forge's closure walk: where the log and the claim part.
-/
import Derived.Test.YthcccgbodceeeaaDoorFPSays2
namespace Go.Proofs.YthcccgbodceeeaaDoor
open Go.RowKit

/-- What part knew when it began. -/
structure PartOld (S : Nat → Addr) (w : World) (lb mb cb B : Nat) (ls fs : List ByteArray) (zp : List ((Nat × Nat) × List UInt8)) : Prop where
  fw : FW S w
  log : LogAt w lb ls
  map : MapAt w mb zp
  row : ∃ lv t fr, w.heap[cb]? = some (.cells #[.pointer (some ⟨lb, 0, none⟩), .map (some mb), .int .u64 (B : Int), lv] t fr) ∧ StrsIn w lv fs
/-- Nothing has turned but new memory and the two texts. -/
structure AB (ka kb : Nat) (w w' : World) : Prop where
  os : w'.os = w.os
  tape : w'.tape = w.tape
  output : w'.output = w.output
  size : w.heap.size ≤ w'.heap.size
  block : ∀ k, k < w.heap.size → k ≠ ka → k ≠ kb → w'.heap[k]? = w.heap[k]?
theorem AB.refl (ka kb : Nat) (w : World) : AB ka kb w w := ⟨rfl, rfl, rfl, Nat.le_refl _, fun _ _ _ _ => rfl⟩
theorem AB.trans {ka kb : Nat} {a b c : World} (h : AB ka kb a b) (k : AB ka kb b c) : AB ka kb a c :=
  ⟨k.os.trans h.os, k.tape.trans h.tape, k.output.trans h.output, Nat.le_trans h.size k.size, fun i hi h1 h2 => (k.block i (Nat.lt_of_lt_of_le hi h.size) h1 h2).trans (h.block i hi h1 h2)⟩
theorem AB.of_below {ka kb : Nat} {w w' : World} (h : Below w.heap.size w w') : AB ka kb w w' := ⟨h.os, h.tape, h.output, h.size, fun k hk _ _ => h.block k hk⟩
theorem AB.set {ka kb : Nat} {w w' : World} (h : AB ka kb w w') (p : Addr) (hp : p.block = ka ∨ p.block = kb) (v : Value) : AB ka kb w (w'.setCell p v) := by
  refine ⟨h.os, h.tape, h.output, by simp; exact h.size, fun k hk h1 h2 => ?_⟩
  rw [Below.heap_setCell _ _ _ _ (by rcases hp with e | e <;> rw [e] <;> assumption)]
  exact h.block k hk h1 h2
theorem AB.drew {ka kb : Nat} {w w' : World} (h : AB ka kb w w') : AB ka kb w w'.drew := ⟨h.os, h.tape, h.output, h.size, h.block⟩
theorem AB.heap {ka kb : Nat} {w w' : World} (h : AB ka kb w w') {g : Nat} {o : Obj} (hg : w.heap[g]? = some o) (h1 : g ≠ ka) (h2 : g ≠ kb) : w'.heap[g]? = some o := (h.block g (lt_of_heap hg) h1 h2).trans hg
theorem AB.below {ka kb : Nat} {w0 w w' : World} (h : AB ka kb w w') (hb : Below w0.heap.size w0 w) (h1 : w0.heap.size ≤ ka) (h2 : w0.heap.size ≤ kb) : Below w0.heap.size w0 w' :=
  ⟨h.os.trans hb.os, h.tape.trans hb.tape, h.output.trans hb.output, Nat.le_trans hb.size h.size, fun k hk => (h.block k (Nat.lt_of_lt_of_le hk hb.size) (by omega) (by omega)).trans (hb.block k hk)⟩
/-- What walk sees. -/
structure WalkEnv (w0 w : World) (cb kc kcut ka kb ks kw : Nat) : Prop where
  bel : Below w0.heap.size w0 w
  ga : w0.heap.size ≤ ka
  gb : w0.heap.size ≤ kb
  nab : ka ≠ kb
  nc : kc ≠ ka ∧ kc ≠ kb
  ncut : kcut ≠ ka ∧ kcut ≠ kb
  ns : ks ≠ ka ∧ ks ≠ kb
  nw : kw ≠ ka ∧ kw ≠ kb
  c : ∃ t fr, w.heap[kc]? = some (.cells #[.pointer (some ⟨cb, 0, none⟩)] t fr)
  cut : ∃ t fr, w.heap[kcut]? = some (.cells #[.func (.func 33) #[] #[]] t fr)
  says : ∃ t fr, w.heap[ks]? = some (.cells #[.func (.func 34) #[] #[.pointer (some ⟨kc, 0, none⟩), .pointer (some ⟨kcut, 0, none⟩), .pointer (some ⟨ks, 0, none⟩)]] t fr)
  walk : ∃ t fr, w.heap[kw]? = some (.cells #[.func (.func 35) #[] #[.pointer (some ⟨kc, 0, none⟩), .pointer (some ⟨kcut, 0, none⟩), .pointer (some ⟨ka, 0, none⟩), .pointer (some ⟨kb, 0, none⟩), .pointer (some ⟨ks, 0, none⟩), .pointer (some ⟨kw, 0, none⟩)]] t fr)
  a : ∃ s, w.heap[ka]? = some (.cells #[.string s] 9 (0, 0))
  b : ∃ s, w.heap[kb]? = some (.cells #[.string s] 9 (0, 0))
theorem WalkEnv.keep {w0 w w' : World} {cb kc kcut ka kb ks kw : Nat} (h : WalkEnv w0 w cb kc kcut ka kb ks kw) (hb : Below w.heap.size w w') : WalkEnv w0 w' cb kc kcut ka kb ks kw where
  bel := h.bel.trans (hb.mono h.bel.size)
  ga := h.ga
  gb := h.gb
  nab := h.nab
  nc := h.nc
  ncut := h.ncut
  ns := h.ns
  nw := h.nw
  c := by obtain ⟨t, fr, h⟩ := h.c; exact ⟨t, fr, below_heap hb h⟩
  cut := by obtain ⟨t, fr, h⟩ := h.cut; exact ⟨t, fr, below_heap hb h⟩
  says := by obtain ⟨t, fr, h⟩ := h.says; exact ⟨t, fr, below_heap hb h⟩
  walk := by obtain ⟨t, fr, h⟩ := h.walk; exact ⟨t, fr, below_heap hb h⟩
  a := by obtain ⟨s, h⟩ := h.a; exact ⟨s, below_heap hb h⟩
  b := by obtain ⟨s, h⟩ := h.b; exact ⟨s, below_heap hb h⟩
theorem one_set {W : World} {g : Nat} {x : Value} {T : TypeId} {fr : Nat × Nat} (h : W.heap[g]? = some (.cells #[x] T fr)) (v : Value) : (W.setCell ⟨g, 0, none⟩ v).heap[g]? = some (.cells #[v] T fr) := by
  unfold World.setCell
  simp [Array.getElem?_modify, h]
/-- Both texts are written. -/
theorem WalkEnv.set {w0 w : World} {cb kc kcut ka kb ks kw : Nat} (h : WalkEnv w0 w cb kc kcut ka kb ks kw) (x y : ByteArray) :
    WalkEnv w0 ((w.setCell ⟨ka, 0, none⟩ (.string x)).setCell ⟨kb, 0, none⟩ (.string y)) cb kc kcut ka kb ks kw ∧
    ((w.setCell ⟨ka, 0, none⟩ (.string x)).setCell ⟨kb, 0, none⟩ (.string y)).heap[ka]? = some (.cells #[.string x] 9 (0, 0)) ∧ ((w.setCell ⟨ka, 0, none⟩ (.string x)).setCell ⟨kb, 0, none⟩ (.string y)).heap[kb]? = some (.cells #[.string y] 9 (0, 0)) ∧
    AB ka kb w ((w.setCell ⟨ka, 0, none⟩ (.string x)).setCell ⟨kb, 0, none⟩ (.string y)) := by
  have hab := ((AB.refl ka kb w).set ⟨ka, 0, none⟩ (.inl rfl) (.string x)).set ⟨kb, 0, none⟩ (.inr rfl) (.string y)
  obtain ⟨s, ha⟩ := h.a
  obtain ⟨s', hb⟩ := h.b
  have e1 : ((w.setCell ⟨ka, 0, none⟩ (.string x)).setCell ⟨kb, 0, none⟩ (.string y)).heap[ka]? = some (.cells #[.string x] 9 (0, 0)) := by
    rw [setCell_other _ kb 0 ka _ h.nab]
    exact one_set ha _
  have e2 : ((w.setCell ⟨ka, 0, none⟩ (.string x)).setCell ⟨kb, 0, none⟩ (.string y)).heap[kb]? = some (.cells #[.string y] 9 (0, 0)) := by
    refine one_set (x := .string s') ?_ _
    rw [setCell_other _ ka 0 kb _ (fun e => h.nab e.symm)]
    exact hb
  refine ⟨⟨hab.below h.bel h.ga h.gb, h.ga, h.gb, h.nab, h.nc, h.ncut, h.ns, h.nw, ?_, ?_, ?_, ?_, ⟨_, e1⟩, ⟨_, e2⟩⟩, e1, e2, hab⟩
  · obtain ⟨t, fr, h1⟩ := h.c; exact ⟨t, fr, hab.heap h1 h.nc.1 h.nc.2⟩
  · obtain ⟨t, fr, h1⟩ := h.cut; exact ⟨t, fr, hab.heap h1 h.ncut.1 h.ncut.2⟩
  · obtain ⟨t, fr, h1⟩ := h.says; exact ⟨t, fr, hab.heap h1 h.ns.1 h.ns.2⟩
  · obtain ⟨t, fr, h1⟩ := h.walk; exact ⟨t, fr, hab.heap h1 h.nw.1 h.nw.2⟩
theorem WalkEnv.part {S : Nat → Addr} {w0 w : World} {lb mb cb B : Nat} {ls fs : List ByteArray} {zp : List ((Nat × Nat) × List UInt8)} {kc kcut ka kb ks kw : Nat} (h : WalkEnv w0 w cb kc kcut ka kb ks kw) (ho : PartOld S w0 lb mb cb B ls fs zp) : PartEnv S w lb mb cb B ls fs zp kc kcut ks where
  fw := ho.fw.below h.bel
  log := ho.log.below h.bel
  map := ho.map.below h.bel
  row := by obtain ⟨lv, t, fr, h1, h2⟩ := ho.row; exact ⟨lv, t, fr, below_heap h.bel h1, h2.below h.bel⟩
  c := h.c
  cut := h.cut
  says := h.says
def walkArgs (b e : Int) (kc kcut ka kb ks kw : Nat) : Array Value := #[.agg #[.int .u64 b, .int .u64 e], .pointer (some ⟨kc, 0, none⟩), .pointer (some ⟨kcut, 0, none⟩), .pointer (some ⟨ka, 0, none⟩), .pointer (some ⟨kb, 0, none⟩), .pointer (some ⟨ks, 0, none⟩), .pointer (some ⟨kw, 0, none⟩)]
/-- What walk tells. -/
def WalkPost (w0 : World) (cb kc kcut ka kb ks kw : Nat) (w : World) (r : Option (List UInt8 × List UInt8)) (x : Ending) (w' : World) : Prop :=
  x = .returned (.bool r.isSome) ∧ (∀ p q, r = some (p, q) → ∃ s s', w'.heap[ka]? = some (.cells #[.string s] 9 (0, 0)) ∧ w'.heap[kb]? = some (.cells #[.string s'] 9 (0, 0)) ∧ bs s = p ∧ bs s' = q) ∧ WalkEnv w0 w' cb kc kcut ka kb ks kw ∧ AB ka kb w w'
set_option maxHeartbeats 1000000 in
set_option maxRecDepth 100000 in
theorem pwalk_out (S : Nat → Addr) (w0 : World) (lb mb cb B : Nat) (ls fs : List ByteArray) (zp : List ((Nat × Nat) × List UInt8)) (kc kcut ka kb ks kw b e : Nat) (X : List UInt8) (w : World) (hO : PartOld S w0 lb mb cb B ls fs zp) (hE : WalkEnv w0 w cb kc kcut ka kb ks kw) (hz : Looks zp) (hb : b ≤ 400) (he : e ≤ 400) (hl : zp.lookup (b, e) = some X) :
    Calls Tryd.prog 35 (walkArgs b e kc kcut ka kb ks kw) w fun x w' => WalkPost w0 cb kc kcut ka kb ks kw w none x w' := by
  obtain ⟨z32, hz32, hzs⟩ := z32_ex
  obtain ⟨zl, hzl, hzv⟩ := zeroHash
  have HXL := Lib.hid (show X.length = 32 by
    obtain ⟨l1, l2, h1, _⟩ := List.lookup_eq_some_iff.1 hl
    exact hz.2.2 _ (by rw [h1]; exact List.mem_append_right _ (List.mem_cons_self ..)))
  have hP := hE.part hO
  have HLK := Lib.hid (fun (W : World) (hW : Below w.heap.size w W) => (by
    have h := map_look zl hzv (hP.map.below hW) hz.1 hz.2.1 b e (by omega) (by omega)
    rw [hl] at h
    exact h : (Instr.lookup 58 (.map (some mb)) (spanV b e) true).run Tryd.prog W = .ok (.tuple #[.agg (Lib.byteCells X).toArray, .bool true]) W))
  unfold spanV at HLK
  obtain ⟨lv, t1, fr1, hrow, _⟩ := hP.row
  obtain ⟨t2, fr2, hkc⟩ := hP.c
  have c0 := cell_of hkc 0 rfl
  have c1 := cell_of hrow 1 rfl
  have HE := Lib.hid hE
  have HO := Lib.hid hO
  clear hE hO hP hz hl hkc hrow hzv
  have hA := heap_one w (.cells #[.int .u64 (b : Int), .int .u64 (e : Int)] 65)
  unfold walkArgs
  go_enter Tryd.func35, Tryd.ntmps35
  go_upto_region 1 with fail
  have hq := below_one w (.cells #[.int .u64 (b : Int), .int .u64 (e : Int)] 65)
  generalize (w.alloc (.cells #[.int .u64 (b : Int), .int .u64 (e : Int)] 65)) = w2 at *
  have c2 := cell_of hA 0 rfl
  have c3 := cell_of hA 1 rfl
  have c0 := below_cell hq c0
  have c1 := below_cell hq c1
  have HQ := Lib.hid hq
  have HZS := Lib.hid hzs
  clear hA hq hzs
  go_cut [9, 10] (fun s9 s10 wx => ∃ g9, s9 = .pointer (some ⟨g9, 0, none⟩) ∧ s10 = .bool true ∧ Below w2.heap.size w2 wx)
  case first =>
    have HK := Lib.hid (fun (W' : World) (hb : Below w2.heap.size w2 W') => (⟨hb, below_cell hb c0, below_cell hb c1, below_cell hb c2, below_cell hb c3, HLK.out W' (HQ.out.trans (hb.mono HQ.out.size))⟩ : Below w2.heap.size w2 W' ∧ W'.cell? ⟨kc, 0, none⟩ = some (.pointer (some ⟨cb, 0, none⟩)) ∧ W'.cell? ⟨cb, 1, none⟩ = some (.map (some mb)) ∧ W'.cell? ⟨w.heap.size, 0, none⟩ = some (.int .u64 (b : Int)) ∧ W'.cell? ⟨w.heap.size, 1, none⟩ = some (.int .u64 (e : Int)) ∧
      (Instr.lookup 58 (.map (some mb)) (.agg #[.int .u64 (b : Int), .int .u64 (e : Int)]) true).run Tryd.prog W' = .ok (.tuple #[.agg (Lib.byteCells X).toArray, .bool true]) W'))
    have hone := cells_oneC X
    have hinf : (Tryd.prog.info? 33).map (fun x => x.size) = some (Lib.byteCells X).length := by rw [Lib.byteCells_length, HXL.out]; exact hashInfo
    have hthr : (w2.alloc (.cells z32 33)).drew.there w2.heap.size 0 (Lib.byteCells X).length := there_row (show (w2.alloc (.cells z32 33)).drew.heap[w2.heap.size]? = some (.cells z32 33 (0, 0)) from heap_one w2 _) (by rw [Lib.byteCells_length, HXL.out, HZS.out]; exact Nat.le_refl _)
    have HSC := Lib.hid (setCells_row (show (w2.alloc (.cells z32 33)).drew.heap[w2.heap.size]? = some (.cells z32 33 (0, 0)) from heap_one w2 _) HZS.out X HXL.out)
    have hfb := below_setRow (below_one w2 (.cells z32 33)).drew (Nat.le_refl w2.heap.size) (Lib.byteCells X).toArray
    rw [← HSC.out] at hfb
    have HFB := Lib.hid hfb
    clear hfb
    go_region_held3 (fun W' => Below w2.heap.size w2 W' ∧ W'.cell? ⟨kc, 0, none⟩ = some (.pointer (some ⟨cb, 0, none⟩)) ∧ W'.cell? ⟨cb, 1, none⟩ = some (.map (some mb)) ∧ W'.cell? ⟨w.heap.size, 0, none⟩ = some (.int .u64 (b : Int)) ∧ W'.cell? ⟨w.heap.size, 1, none⟩ = some (.int .u64 (e : Int)) ∧
      (Instr.lookup 58 (.map (some mb)) (.agg #[.int .u64 (b : Int), .int .u64 (e : Int)]) true).run Tryd.prog W' = .ok (.tuple #[.agg (Lib.byteCells X).toArray, .bool true]) W')
      (first | exact HK.out _ (below_drewN (Below.refl _ _) 1) | exact HK.out _ ((below_drewN (Below.refl _ _) 1).alloc (by simp) _) | (rw [HSC.out]; exact HK.out _ (below_setRow (below_one w2 _).drew (Nat.le_refl _) _)))
      (first | fail)
    all_goals (go_wp2_with fail; go_meet; exact ⟨_, rfl, rfl, HFB.out⟩)
  case rest =>
    obtain ⟨g9, rfl, rfl, hbc⟩ := hcut
    have HQc := Lib.hid (HQ.out.trans (hbc.mono HQ.out.size))
    clear hbc c0 c1 c2 c3 hz32
    go_wp2_with fail
    go_ret
    exact ⟨rfl, fun _ _ h => by (cases h), HE.out.keep HQc.out, AB.of_below HQc.out⟩
end Go.Proofs.YthcccgbodceeeaaDoor
