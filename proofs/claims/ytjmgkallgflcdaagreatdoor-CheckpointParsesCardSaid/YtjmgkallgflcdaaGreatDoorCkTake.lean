/-
  checkpoint.take by contracts: one line more of a checkpoint.
-/
import Derived.Test.YtjmgkallgflcdaaGreatDoorHex
import Derived.Test.YtjmgkallgflcdaaGreatDoorAlive
import Derived.Lib.BufferWrite
import Derived.Laws.CopyOwn
namespace Go.Proofs.YtjmgkallgflcdaaGreatDoor
open Go.RowKit

/-- A checkpoint's cells: origin, size, root, further lines. -/
def ckList (o : ByteArray) (z : Int) (root : List Value) (ev : Value) : List Value := .string o :: .int .u64 z :: (root ++ [ev])
def CkRow (W : World) (cb : Nat) (o : ByteArray) (z : Int) (root : List Value) (ev : Value) : Prop :=
  root.length = 32 ∧ W.heap[cb]? = some (.cells (ckList o z root ev).toArray 27 (0, 0))
theorem CkRow.cells {W : World} {cb : Nat} {o : ByteArray} {z : Int} {root : List Value} {ev : Value} (h : CkRow W cb o z root ev) :
    W.cell? ⟨cb, 0, none⟩ = some (.string o) ∧ W.cell? ⟨cb, 1, none⟩ = some (.int .u64 z) ∧ W.cell? ⟨cb, 34, none⟩ = some ev ∧ ∀ j, W.frozen? ⟨cb, j, none⟩ = false := by
  refine ⟨?_, ?_, ?_, fun j => frozen_row h.2 j⟩
  · rw [cell_of_row _ _ 0 _ _ _ h.2]; rfl
  · rw [cell_of_row _ _ 1 _ _ _ h.2]; rfl
  · rw [cell_of_row _ _ 34 _ _ _ h.2]
    simp [ckList, h.1]
theorem CkRow.set0 {W : World} {cb : Nat} {o : ByteArray} {z : Int} {root : List Value} {ev : Value} (h : CkRow W cb o z root ev) (s : ByteArray) : CkRow (W.setCell ⟨cb, 0, none⟩ (.string s)) cb s z root ev := by
  refine ⟨h.1, ?_⟩
  rw [heap_setCell_same W cb 0 _ _ _ h.2]
  simp [ckList]
theorem CkRow.set1 {W : World} {cb : Nat} {o : ByteArray} {z : Int} {root : List Value} {ev : Value} (h : CkRow W cb o z root ev) (n : Int) : CkRow (W.setCell ⟨cb, 1, none⟩ (.int .u64 n)) cb o n root ev := by
  refine ⟨h.1, ?_⟩
  rw [heap_setCell_same W cb 1 _ _ _ h.2]
  simp [ckList]
theorem CkRow.set34 {W : World} {cb : Nat} {o : ByteArray} {z : Int} {root : List Value} {ev : Value} (h : CkRow W cb o z root ev) (v : Value) : CkRow (W.setCell ⟨cb, 34, none⟩ v) cb o z root v := by
  refine ⟨h.1, ?_⟩
  rw [heap_setCell_same W cb 34 _ _ _ h.2]
  simp [ckList, h.1]
theorem CkRow.keep {W W' : World} {cb : Nat} {o : ByteArray} {z : Int} {root : List Value} {ev : Value} (h : CkRow W cb o z root ev) (hb : W'.heap[cb]? = W.heap[cb]?) : CkRow W' cb o z root ev := ⟨h.1, hb.trans h.2⟩
theorem CkRow.below {W W' : World} {cb : Nat} {o : ByteArray} {z : Int} {root : List Value} {ev : Value} (h : CkRow W cb o z root ev) (hb : Below W.heap.size W W') : CkRow W' cb o z root ev := ⟨h.1, below_heap hb h.2⟩

/-- What a call leaves alone: the blocks below B but the checkpoint's own. -/
def Keeps (B cb : Nat) (W W' : World) : Prop := W.heap.size ≤ W'.heap.size ∧ ∀ j, j < B → j ≠ cb → W'.heap[j]? = W.heap[j]?
theorem keeps_set {B cb i : Nat} {v : Value} {W W2 : World} (hb : Below (W.setCell ⟨cb, i, none⟩ v).heap.size (W.setCell ⟨cb, i, none⟩ v) W2) (hB : B ≤ W.heap.size) : Keeps B cb W W2 := by
  have hs : (W.setCell ⟨cb, i, none⟩ v).heap.size = W.heap.size := by simp
  refine ⟨by rw [← hs]; exact hb.size, fun j hj hne => ?_⟩
  rw [hb.block j (by rw [hs]; omega), heap_setCell_other W ⟨cb, i, none⟩ j v hne]
theorem keeps_after {B cb i : Nat} {v : Value} {W w1 : World} (hb : Below W.heap.size W w1) (hB : B ≤ W.heap.size) : Keeps B cb W (w1.setCell ⟨cb, i, none⟩ v) := by
  have hs : (w1.setCell ⟨cb, i, none⟩ v).heap.size = w1.heap.size := by simp
  refine ⟨by rw [hs]; exact hb.size, fun j hj hne => ?_⟩
  rw [heap_setCell_other w1 ⟨cb, i, none⟩ j v hne, hb.block j (by omega)]
theorem Keeps.then {B cb : Nat} {W w1 w2 : World} (h : Keeps B cb W w1) (hb : Below w1.heap.size w1 w2) (hB : B ≤ W.heap.size) : Keeps B cb W w2 :=
  ⟨Nat.le_trans h.1 hb.size, fun j hj hne => by rw [hb.block j (by have := h.1; omega), h.2 j hj hne]⟩

theorem take_0 (S : Nat → Addr) (w0 W : World) (cb B : Nat) (hBW : B ≤ W.heap.size) (o s : ByteArray) (z : Int) (root : List Value) (ev : Value) (hB : Base S w0) (hbel : Below w0.heap.size w0 W) (hcb : w0.heap.size ≤ cb) (hrow : CkRow W cb o z root ev) (hs : s.size ≤ 9223372036854775807) :
    Calls Tryz.prog 43 #[.pointer (some ⟨cb, 0, none⟩), .int .i64 0, .string s] W fun e W' => e = .returned (.bool (nameOf s.data.toList)) ∧ Below w0.heap.size w0 W' ∧ CkRow W' cb s z root ev ∧ Keeps B cb W W' := by
  obtain ⟨c0, _, _, fz⟩ := hrow.cells
  have f0 := fz 0
  have hb1 : Below w0.heap.size w0 (W.setCell ⟨cb, 0, none⟩ (.string s)) := hbel.setCell (p := ⟨cb, 0, none⟩) hcb _
  have HN := Lib.hid (name_any S s _ hs (hB.below hb1))
  have HR := Lib.hid (hrow.set0 s)
  have HB1 := Lib.hid hb1
  clear hb1 hrow hB hbel fz
  go_enter Tryz.func43, Tryz.ntmps43
  go_wp2_with fail
  refine HN.out.mono ?_
  rintro e w2 ⟨rfl, b2⟩
  go_wp2_with fail
  go_ret
  exact ⟨rfl, HB1.out.trans (b2.mono HB1.out.size), HR.out.below b2, keeps_set b2 hBW⟩
theorem take_1 (S : Nat → Addr) (w0 W : World) (cb B : Nat) (hBW : B ≤ W.heap.size) (o s : ByteArray) (z : Int) (root : List Value) (ev : Value) (hB : Base S w0) (hbel : Below w0.heap.size w0 W) (hcb : w0.heap.size ≤ cb) (hrow : CkRow W cb o z root ev) (hs : s.size ≤ 9223372036854775807) :
    Calls Tryz.prog 43 #[.pointer (some ⟨cb, 0, none⟩), .int .i64 1, .string s] W fun e W' => e = .returned (.bool (decide ((fromDec s.data.toList).2.1 = 0) && decide ((fromDec s.data.toList).1 ≤ 1048576))) ∧ Below w0.heap.size w0 W' ∧ CkRow W' cb o ((fromDec s.data.toList).1 : Int) root ev ∧ Keeps B cb W W' := by
  have HD := Lib.hid (fromDecimal_any S s W hs (hB.below hbel))
  generalize fromDec s.data.toList = A at *
  obtain ⟨n, c, p⟩ := A
  simp only [] at HD ⊢
  have HR := Lib.hid hrow
  have HB := Lib.hid hbel
  clear hrow hB hbel
  go_enter Tryz.func43, Tryz.ntmps43
  go_wp2_with fail
  refine HD.out.mono ?_
  rintro e w1 ⟨ev1, rfl, he, b1⟩
  have hr1 := HR.out.below b1
  obtain ⟨_, c1, _, fz⟩ := hr1.cells
  have f1 := fz 1
  have HR1 := Lib.hid (hr1.set1 n)
  have hbw : Below w0.heap.size w0 w1 := HB.out.trans (b1.mono HB.out.size)
  have HB1 := Lib.hid (hbw.setCell (p := ⟨cb, 1, none⟩) hcb (.int .u64 n))
  have HSZ := Lib.hid (keeps_after (i := 1) (v := .int .u64 n) (cb := cb) b1 hBW)
  have HE := Lib.hid he
  clear hr1 fz hbw b1 he
  by_cases hc : c = 0
  · obtain rfl : ev1 = .nilIface := by
      rcases HE.out with ⟨h, _⟩ | ⟨h, _⟩ | ⟨h, _⟩
      · exact h
      · omega
      · omega
    by_cases hn : n ≤ 1048576
    · have hn' : (n : Int) ≤ 1048576 := by omega
      go_wp2_with fail
      go_ret
      exact ⟨ret_bool (by simp [hc, hn]), HB1.out, HR1.out, HSZ.out⟩
    · have hn' : ¬ (n : Int) ≤ 1048576 := by omega
      go_wp2_with fail
      go_ret
      exact ⟨ret_bool (by simp [hn]; omega), HB1.out, HR1.out, HSZ.out⟩
  · obtain ⟨T, x, rfl⟩ : ∃ T x, ev1 = .iface T x := by
      rcases HE.out with ⟨_, h, _⟩ | ⟨_, _, h, _⟩ | ⟨_, _, b, y, h, _⟩
      · exact absurd h hc
      · exact ⟨_, _, h⟩
      · exact ⟨_, _, h⟩
    go_wp2_with fail
    go_ret
    exact ⟨ret_bool (by simp [hc]), HB1.out, HR1.out, HSZ.out⟩

theorem setRow_other (w : World) (g j : Nat) (cs : Array Value) (h : j ≠ g) : (w.setRow g cs).heap[j]? = w.heap[j]? := by
  simp only [World.setRow]
  rw [Array.getElem?_modify, if_neg (fun e => h e.symm)]
/-- 'copy(dst, s)', s a string: as many bytes as there is room for. -/
theorem run_copy_min {P : Program} (w : World) (dT sT ty elem : TypeId) (g o dLen dCap : Nat) (s : ByteArray) (cur : Array Value) (t : TypeId)
    (hu : P.underlying dT = some (.slice elem)) (hs : (P.info? elem).map (·.size) = some 1) (hg : w.heap[g]? = some (.cells cur t (0, 0))) (hfit : o + Nat.min s.size dLen ≤ cur.size) :
    (Builtin.copy_ #[dT, sT] ty #[.slice (some ⟨g, o, none⟩) dLen dCap, .string s]).run P w =
      .ok (goInt (Nat.min s.size dLen)) (w.setRow g (cur.toList.take o ++ Lib.byteCells (s.data.toList.take (Nat.min s.size dLen)) ++ cur.toList.drop (o + Nat.min s.size dLen)).toArray) := by
  have hlen : (Lib.byteCells (s.data.toList.take (Nat.min s.size dLen))).length = Nat.min s.size dLen := by
    rw [Lib.byteCells_length, List.length_take, size_list]
    have := Nat.min_le_left s.size dLen
    exact Nat.min_eq_left this
  have hst := run_storeCells_at P g o t (Lib.byteCells (s.data.toList.take (Nat.min s.size dLen))) 0 cur w hg (by rw [hlen]; simpa using hfit) (Lib.byteCells_one _)
  have htk : List.take (Nat.min s.size dLen) (List.map (fun b : UInt8 => Value.int IntKind.u8 (b.toNat : Int)) s.data.toList) = Lib.byteCells (s.data.toList.take (Nat.min s.size dLen)) := by
    unfold Lib.byteCells
    rw [List.map_take]
  rw [hlen] at hst
  simp only [Nat.add_zero] at hst
  cases hq : P.info? elem with
  | none => simp [hq] at hs
  | some i =>
    simp [Builtin.copy_, run_underlying hu, Builtin.lenOf, Builtin.firstCells, sizeOf, typeInfo, hq]
    rw [htk, hst]
    simp [Result.andThen]
theorem ck_copy {W : World} {cb : Nat} {o : ByteArray} {z : Int} {root : List Value} {ev : Value} (h : CkRow W cb o z root ev) (x : ByteArray) :
    ∃ root', (x.size = 32 → root' = Lib.byteCells x.data.toList) ∧ (∀ ty, (Builtin.copy_ #[77, 9] ty #[.slice (some ⟨cb, 2, none⟩) 32 32, .string x]).run Tryz.prog W = .ok (goInt (Nat.min x.size 32)) (W.setRow cb (ckList o z root' ev).toArray)) ∧ CkRow (W.setRow cb (ckList o z root' ev).toArray) cb o z root' ev := by
  obtain ⟨m, hmd, h1, h2, h3⟩ : ∃ m, Nat.min x.size 32 = m ∧ m ≤ 32 ∧ m ≤ x.size ∧ (x.size = 32 → m = 32) := ⟨_, rfl, Nat.min_le_right _ _, Nat.min_le_left _ _, fun h => by rw [h]; rfl⟩
  have hsz : (ckList o z root ev).length = 35 := by simp [ckList, h.1]
  refine ⟨Lib.byteCells (x.data.toList.take m) ++ root.drop m, fun h32 => ?_, fun ty => ?_, ?_, ?_⟩
  · rw [h3 h32, List.drop_eq_nil_of_le (by rw [h.1]; exact Nat.le_refl _), List.append_nil, List.take_of_length_le (by rw [size_list]; omega)]
  · have hc := run_copy_min (P := Tryz.prog) W 77 9 ty 5 cb 2 32 32 x _ _ Tryz.underlying77 (by kernel_rfl) h.2 (by
      rw [hmd]
      show 2 + m ≤ (ckList o z root ev).toArray.size
      rw [List.size_toArray, hsz]; omega)
    rw [hmd] at hc
    rw [hc, hmd]
    have hd : (root ++ [ev]).drop m = root.drop m ++ [ev] := List.drop_append_of_le_length (by rw [h.1]; exact h1)
    have hl : (ckList o z root ev).toArray.toList.take 2 ++ Lib.byteCells (x.data.toList.take m) ++ (ckList o z root ev).toArray.toList.drop (2 + m) = ckList o z (Lib.byteCells (x.data.toList.take m) ++ root.drop m) ev := by
      unfold ckList
      rw [show 2 + m = m + 1 + 1 by omega, List.drop_succ_cons, List.drop_succ_cons, hd]
      simp
    rw [hl]
  · rw [List.length_append, Lib.byteCells_length, List.length_take, List.length_drop, h.1, size_list]
    omega
  · exact setRow_heap W cb _ _ _ _ h.2

set_option maxHeartbeats 1000000 in
set_option maxRecDepth 100000 in
theorem take_2 (S : Nat → Addr) (w0 W : World) (cb B : Nat) (hBW : B ≤ W.heap.size) (o s : ByteArray) (z : Int) (root : List Value) (ev : Value) (hB : Base S w0) (hbel : Below w0.heap.size w0 W) (hcb : w0.heap.size ≤ cb) (hrow : CkRow W cb o z root ev) (hs : s.size ≤ 9223372036854775807) :
    Calls Tryz.prog 43 #[.pointer (some ⟨cb, 0, none⟩), .int .i64 2, .string s] W fun e W' => e = .returned (.bool (decide ((fromB64 s.data.toList).2.1 = 0) && decide ((fromB64 s.data.toList).1.length = 32))) ∧ Below w0.heap.size w0 W' ∧
      (∃ root', ((fromB64 s.data.toList).1.length = 32 → root' = Lib.byteCells (fromB64 s.data.toList).1) ∧ CkRow W' cb o z root' ev) ∧ Keeps B cb W W' := by
  have HD := Lib.hid (fromBase64_any S s W hs (hB.below hbel))
  generalize fromB64 s.data.toList = A at *
  obtain ⟨l, c, p⟩ := A
  simp only [] at HD ⊢
  have hxs : (⟨l.toArray⟩ : ByteArray).size = l.length := by show l.toArray.size = l.length; simp
  have hxl : (⟨l.toArray⟩ : ByteArray).data.toList = l := by simp
  generalize (⟨l.toArray⟩ : ByteArray) = x at *
  subst hxl
  have HR := Lib.hid hrow
  have HB := Lib.hid hbel
  have HX := Lib.hid hxs
  clear hrow hB hbel hxs
  go_enter Tryz.func43, Tryz.ntmps43
  go_wp2_with fail
  refine HD.out.mono ?_
  rintro e w1 ⟨ev1, rfl, he, b1⟩
  have hr1 := HR.out.below b1
  obtain ⟨root', h32, hcp, hrow'⟩ := ck_copy hr1 x
  have hbw : Below w0.heap.size w0 w1 := HB.out.trans (b1.mono HB.out.size)
  have HB1 := Lib.hid (below_setRow hbw hcb (ckList o z root' ev).toArray)
  have HSZ : Keeps B cb W (w1.setRow cb (ckList o z root' ev).toArray) := by
    refine ⟨?_, fun j hj hne => ?_⟩
    · have := b1.size
      have e : (w1.setRow cb (ckList o z root' ev).toArray).heap.size = w1.heap.size := by simp [World.setRow]
      rw [e]; exact this
    · rw [setRow_other w1 cb j _ hne, b1.block j (by omega)]
  have HSZ' := Lib.hid HSZ
  have HE := Lib.hid he
  have H32 := Lib.hid h32
  have HR1 := Lib.hid hrow'
  have f2 := frozen_row hr1.2 2
  clear hr1 hbw b1 he h32 hrow' HSZ
  by_cases hc : c = 0
  · obtain rfl : ev1 = .nilIface := by
      rcases HE.out with ⟨h, _⟩ | ⟨h, _⟩ | ⟨h, _⟩
      · exact h
      · omega
      · omega
    by_cases hn : x.size = 32
    · have hn' : ((x.size : Int) == 32) = true := by simp; omega
      have hl : x.data.toList.length = 32 := by rw [← HX.out]; exact hn
      have HRET := Lib.hid (show (decide (c = 0) && decide (x.data.toList.length = 32)) = true by simp [hc, ← HX.out, hn])
      have HQ := Lib.hid hl
      clear hl hn
      go_wp2_with fail
      go_ret
      exact ⟨ret_bool HRET.out.symm, HB1.out, ⟨root', fun _ => H32.out (by rw [HX.out]; exact HQ.out), HR1.out⟩, HSZ'.out⟩
    · have hn' : ((x.size : Int) == 32) = false := by rw [beq_eq_false_iff_ne]; omega
      have HRET := Lib.hid (show (decide (c = 0) && decide (x.data.toList.length = 32)) = false by rw [← HX.out]; simp [hn])
      clear hn
      go_wp2_with fail
      go_ret
      exact ⟨ret_bool HRET.out.symm, HB1.out, ⟨root', fun h => H32.out (by rw [HX.out]; exact h), HR1.out⟩, HSZ'.out⟩
  · obtain ⟨T, y, rfl⟩ : ∃ T y, ev1 = .iface T y := by
      rcases HE.out with ⟨_, h, _⟩ | ⟨_, _, h, _⟩ | ⟨_, _, b, y, h, _⟩
      · exact absurd h hc
      · exact ⟨_, _, h⟩
      · exact ⟨_, _, h⟩
    have HRET := Lib.hid (show (decide (c = 0) && decide (x.data.toList.length = 32)) = false by simp [hc])
    go_wp2_with fail
    go_ret
    exact ⟨ret_bool HRET.out.symm, HB1.out, ⟨root', fun h => H32.out (by rw [HX.out]; exact h), HR1.out⟩, HSZ'.out⟩

theorem owns_keep {w w' : World} {B : Nat} {e : TypeId} {size : Nat} {v : Value} {n : Nat} {xs : List Value} (h : w.ownsRow B e size v n xs) (hb : ∀ g, v.ownBlock = some g → w'.heap[g]? = w.heap[g]?) : w'.ownsRow B e size v n xs := by
  refine ⟨h.1, ?_⟩
  rcases h.2 with h' | ⟨g, cap, cur, rfl, hg, hh, hr⟩
  · exact .inl h'
  · exact .inr ⟨g, cap, cur, rfl, hg, (hb g rfl).trans hh, hr⟩
theorem owns_slice {B : Nat} {w : World} {t : TypeId} {v : Value} {n : Nat} {cs : List Value} (h : w.ownsRow B t 1 v n cs) : ∃ ao cap, v = .slice ao n cap := by
  rcases h.2 with ⟨rfl, rfl⟩ | ⟨g, cap, cur, rfl, _⟩
  · exact ⟨none, 0, rfl⟩
  · exact ⟨_, _, rfl⟩
/-- The further lines: a slice of texts that the call owns. -/
def Owns (B : Nat) (W : World) (v : Value) (L : List ByteArray) : Prop := W.ownsRow B 9 1 v L.length (L.map Value.string)
theorem infoString : (Tryz.prog.info? 9).map (fun i => (i.zero, i.size, i.bytes)) = some (some (.string ⟨#[]⟩), 1, 16) := by kernel_rfl
set_option maxHeartbeats 1000000 in
set_option maxRecDepth 100000 in
theorem take_3 (S : Nat → Addr) (w0 W : World) (cb B : Nat) (hBW : B ≤ W.heap.size) (hcB : cb < B) (k : Nat) (o s : ByteArray) (z : Int) (root : List Value) (ev : Value) (L : List ByteArray) (hk : 3 ≤ k) (hk2 : k ≤ 2000000) (hB : Base S w0) (hbel : Below w0.heap.size w0 W) (hcb : w0.heap.size ≤ cb) (hrow : CkRow W cb o z root ev)
    (hown : Owns B W ev L) (hL : L.length ≤ 2000000) (hs : s.size ≤ 9223372036854775807) :
    Calls Tryz.prog 43 #[.pointer (some ⟨cb, 0, none⟩), .int .i64 (k : Int), .string s] W fun e W' => e = .returned (.bool (decide (s.size ≠ 0) && plainOf s.data.toList && decide (k < 19))) ∧ Below w0.heap.size w0 W' ∧
      (∃ ev', CkRow W' cb o z root ev' ∧ Owns B W' ev' (L ++ [s])) ∧ Keeps B cb W W' := by
  obtain ⟨i0, hi, hz⟩ := Option.map_eq_some_iff.1 infoString
  simp only [Prod.mk.injEq] at hz
  obtain ⟨hz0, hz1, hz2⟩ := hz
  have k0 : ((k : Int) == 0) = false := by rw [beq_eq_false_iff_ne]; omega
  have k1 : ((k : Int) == 1) = false := by rw [beq_eq_false_iff_ne]; omega
  have k2 : ((k : Int) == 2) = false := by rw [beq_eq_false_iff_ne]; omega
  obtain ⟨_, _, c34, fz⟩ := hrow.cells
  have hlt : cb < W.heap.size := lt_of_heap hrow.2
  have hnews : ∀ j u, [Value.string s][j]? = some u → (W.alloc (.cells #[.string s] 9)).cell? ((⟨W.heap.size, 0, none⟩ : Addr).add j) = some u := fun j u hj => by
    match j, hj with
    | 0, hj => simp at hj; subst hj; simp [Addr.add]
  have hown' : W.ownsRow B 9 1 ev L.length (L.map Value.string) := hown
  have HR := Lib.hid hrow
  have HB := Lib.hid hbel
  have HBB := Lib.hid hB
  have hob : ∀ g, ev.ownBlock = some g → B ≤ g := fun g hg => (hown'.lt g hg).1
  have HOB := Lib.hid hob
  clear hrow hB hbel hown hob
  go_enter Tryz.func43, Tryz.ntmps43
  go_wp2_with (at_builtin; refine wpList_append_own _ rfl _ _ 25 rfl B 9 i0 (.string ⟨#[]⟩) 1 16 Tryz.underlying25 hi hz0 hz1 hz2 rfl (by decide) _ _ _ rfl (hown'.alloc _) ⟨W.heap.size, 0, none⟩ 1 1 [.string s] rfl rfl (by exact hnews) (by intro u hu; simp at hu; subst hu; rfl) (by unfold maxLen; omega) (by omega) (by simp; omega) ?_)
  intro v' w1 hown1 hgrow _
  obtain ⟨ao1, cap1, rfl⟩ := owns_slice hown1
  have hrow1 : CkRow w1 cb o z root ev := HR.out.keep (by
    rw [hgrow.block cb (by simp; omega) (fun e => by have := HOB.out cb e.symm; omega), Lib.alloc_old W _ cb hlt])
  have hbel1 : Below w0.heap.size w0 w1 := (HB.out.alloc HB.out.size _).grown hgrow (by have := HB.out.size; simp; omega) (fun j hj => by have := HOB.out j hj; omega)
  obtain ⟨_, _, d34, fz1⟩ := hrow1.cells
  have f34 := fz1 34
  have HR2 := Lib.hid (hrow1.set34 (.slice ao1 (L.length + 1) cap1))
  have hb2 := hbel1.setCell (p := ⟨cb, 34, none⟩) hcb (.slice ao1 (L.length + 1) cap1)
  have HB2 := Lib.hid hb2
  have hsz1 : Keeps B cb W (w1.setCell ⟨cb, 34, none⟩ (.slice ao1 (L.length + 1) cap1)) := by
    refine ⟨by have := hgrow.size; simp at this ⊢; omega, fun j hj hne => ?_⟩
    rw [heap_setCell_other w1 ⟨cb, 34, none⟩ j _ hne, hgrow.block j (by simp; omega) (fun e => by have := HOB.out j e.symm; omega), Lib.alloc_old W _ j (by omega)]
  have HSZ := Lib.hid hsz1
  have hown2 : Owns B (w1.setCell ⟨cb, 34, none⟩ (.slice ao1 (L.length + 1) cap1)) (.slice ao1 (L.length + 1) cap1) (L ++ [s]) := by
    have h0 : w1.ownsRow B 9 1 (.slice ao1 (L.length + 1) cap1) (L ++ [s]).length ((L ++ [s]).map Value.string) := by rw [List.length_append, List.map_append]; exact hown1
    exact owns_keep h0 (fun g hg => by
      have := (h0.lt g hg).1
      exact heap_setCell_other w1 ⟨cb, 34, none⟩ g (.slice ao1 (L.length + 1) cap1) (by show g ≠ cb; omega))
  have HO2 := Lib.hid hown2
  have HP := Lib.hid (plain_any S s _ hs (HBB.out.below hb2))
  clear hrow1 hbel1 fz1 fz hb2 hsz1 hown2 hown1 hgrow hown' hnews c34 HR HB HOB
  by_cases h0 : s.size = 0
  · have hl0 : s.toList = [] := by rw [ByteArray.toList_eq]; exact List.eq_nil_of_length_eq_zero (by rw [size_list]; exact h0)
    have HRET := Lib.hid (show (decide (s.size ≠ 0) && plainOf s.data.toList && decide (k < 19)) = false by simp [h0])
    clear h0 HP
    go_wp2_with fail
    go_ret
    exact ⟨ret_bool HRET.out.symm, HB2.out, ⟨_, HR2.out, HO2.out⟩, HSZ.out⟩
  · have hne : s.toList.isEmpty = false := by
      rw [ByteArray.toList_eq]
      cases hq : s.data.toList with
      | nil => exact absurd (by rw [← size_list, hq]; rfl) h0
      | cons _ _ => rfl
    have hne2 : ¬ s.toList = [] := fun e => by rw [e] at hne; cases hne
    have hr : (decide (s.size ≠ 0) && plainOf s.data.toList && decide (k < 19)) = (plainOf s.data.toList && decide (k < 19)) := by simp [h0]
    have HRET := Lib.hid hr
    clear h0 hr
    obtain ⟨pl, hpl⟩ : ∃ pl, plainOf s.data.toList = pl := ⟨_, rfl⟩
    rw [hpl] at HP
    have HPL := Lib.hid hpl
    clear hpl
    cases pl with
    | true =>
      by_cases h19 : k < 19
      · have h19' : (k : Int) < 19 := by omega
        have HRET2 := Lib.hid (show (decide (s.size ≠ 0) && plainOf s.data.toList && decide (k < 19)) = true by rw [HRET.out, HPL.out]; simp [h19])
        clear HRET h19
        go_wp2_with fail
        refine HP.out.mono ?_
        rintro e w2 ⟨rfl, b2⟩
        go_wp2_with fail
        go_ret
        exact ⟨ret_bool HRET2.out.symm, HB2.out.trans (b2.mono HB2.out.size), ⟨_, HR2.out.below b2, owns_keep HO2.out (fun g hg => b2.block g ((HO2.out : World.ownsRow _ _ _ _ _ _ _).lt g hg).2)⟩, HSZ.out.then b2 hBW⟩
      · have h19' : ¬ (k : Int) < 19 := by omega
        have HRET2 := Lib.hid (show (decide (s.size ≠ 0) && plainOf s.data.toList && decide (k < 19)) = decide ((k : Int) < 19) by rw [HRET.out, HPL.out]; simp [h19]; omega)
        clear HRET h19
        go_wp2_with fail
        refine HP.out.mono ?_
        rintro e w2 ⟨rfl, b2⟩
        go_wp2_with fail
        go_ret
        exact ⟨ret_bool HRET2.out.symm, HB2.out.trans (b2.mono HB2.out.size), ⟨_, HR2.out.below b2, owns_keep HO2.out (fun g hg => b2.block g ((HO2.out : World.ownsRow _ _ _ _ _ _ _).lt g hg).2)⟩, HSZ.out.then b2 hBW⟩
    | false =>
      have HRET2 := Lib.hid (show (decide (s.size ≠ 0) && plainOf s.data.toList && decide (k < 19)) = false by rw [HRET.out, HPL.out]; simp)
      clear HRET
      go_wp2_with fail
      refine HP.out.mono ?_
      rintro e w2 ⟨rfl, b2⟩
      go_wp2_with fail
      go_ret
      exact ⟨ret_bool HRET2.out.symm, HB2.out.trans (b2.mono HB2.out.size), ⟨_, HR2.out.below b2, owns_keep HO2.out (fun g hg => b2.block g ((HO2.out : World.ownsRow _ _ _ _ _ _ _).lt g hg).2)⟩, HSZ.out.then b2 hBW⟩
end Go.Proofs.YtjmgkallgflcdaaGreatDoor
