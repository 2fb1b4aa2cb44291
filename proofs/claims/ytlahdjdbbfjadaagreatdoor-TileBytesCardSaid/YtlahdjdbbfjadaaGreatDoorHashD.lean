/-
  Hashes as bytes: cartularylaw01.SameHashes of equal lists, tile.Decode by their contracts.
-/
import Derived.Test.YtlahdjdbbfjadaaGreatDoorHashes
import Derived.Test.YtlahdjdbbfjadaaGreatDoorTileOf
import Derived.ChangeKeysEq
import Derived.Laws.StructEq
import Derived.Still
import Derived.Lib.ConvBytes
namespace Go.Proofs.YtlahdjdbbfjadaaGreatDoor
open Go.RowKit

theorem u8_plainT : Tryz.prog.plainKey 5 = true := by kernel_rfl
theorem u8_cellsT : Tryz.prog.cellsOf 5 = 1 := by kernel_rfl
theorem u8_infoT : (Tryz.prog.info? 5).isSome = true := by kernel_rfl
theorem h32_guardT : Tryz.prog.eqGuardType Tryz.prog.depth 70 = false := by kernel_rfl
theorem run_itemsT (d : Nat) (a : List UInt8) (w : World) : ∀ is : List Nat, (∀ i ∈ is, i < a.length) →
    (Op.eqItems (d + 1) 5 1 (Lib.byteCells a).toArray (Lib.byteCells a).toArray is).run Tryz.prog w = .ok true w
  | [], _ => by simp [Op.eqItems]
  | i :: is, h => by
    have hi := h i (List.mem_cons_self ..)
    have ea : (Lib.byteCells a).toArray[i * 1]? = some (.int .u8 (a[i].toNat : Int)) := by simp [Lib.byteCells, hi]
    simp only [Op.eqItems, Sem.run_bind, run_part_plain w u8_plainT ea, Result.andThen_ok, run_equalIn_int w d 5 .u8 .u8 _ _ Tryz.underlying5]
    simp only [beq_self_eq_true, Bool.not_true, Bool.false_eq_true, if_false]
    exact run_itemsT d a w is fun j hj => h j (List.mem_cons_of_mem _ hj)
theorem run_hash_same (a : List UInt8) (ha : a.length = 32) (w : World) :
    (binOp .neq 70 (.agg (Lib.byteCells a).toArray) (.agg (Lib.byteCells a).toArray)).run Tryz.prog w = .ok (.bool false) w := by
  obtain ⟨e, hu, rfl⟩ := hashDesc
  obtain ⟨i, hi⟩ := Option.isSome_iff_exists.1 u8_infoT
  rw [run_neq_struct, show (10000 : Nat) = 9998 + 1 + 1 from rfl, run_equalIn_array w (9998 + 1) _ _ hu hi, u8_cellsT, run_itemsT 9998 a w _ (fun j hj => by rw [ha]; exact List.mem_range.1 hj)]
  rfl
/-- A hash is read, where the order is open. -/
theorem wpStill_hash {ops : Array Oper} {w : World} {Q : Act → Prop} {rest : List Oper} {a : Act} {o : Oper} (hw : Region.wanted o (yielded ops a.tmps) = true) (x : Operand) (ho : o.op = .load 70 x)
    (g off : Nat) (hx : a.eval x = .pointer (some ⟨g, off, none⟩)) (l : List UInt8) (hl : l.length = 32) (hr : w.rangeAt g off (Lib.byteCells l))
    (h : wpStill Tryz.prog ops w Q rest (a.put o.dst (.agg (Lib.byteCells l).toArray))) : wpStill Tryz.prog ops w Q (o :: rest) a :=
  wpStill_step fun K hK => by
    rw [if_pos hw]
    unfold Oper.still execOp
    simp only [ho, hx, Instr.loadAt, Instr.sureAddr, Sem.run_bind, Sem.run_pure, Result.andThen_ok, run_loadVar_mid w g off 70 (Lib.byteCells l) _ hr Tryz.underlying70 rfl (by rw [hashInfo, Lib.byteCells_length, hl])]
    exact ⟨rfl, hK _ h⟩
/-- A hash is compared with itself. -/
theorem wpStill_hashNe {ops : Array Oper} {w : World} {Q : Act → Prop} {rest : List Oper} {a : Act} {o : Oper} (hw : Region.wanted o (yielded ops a.tmps) = true) (x y : Operand) (t : TypeId) (ho : o.op = .binOp .neq 70 x y t)
    (l : List UInt8) (hx : a.eval x = .agg (Lib.byteCells l).toArray) (hy : a.eval y = .agg (Lib.byteCells l).toArray) (hl : l.length = 32)
    (h : wpStill Tryz.prog ops w Q rest (a.put o.dst (.bool false))) : wpStill Tryz.prog ops w Q (o :: rest) a :=
  wpStill_step fun K hK => by
    rw [if_pos hw]
    have h2 := run_eqGuard_agg w .neq 70 x y (Lib.byteCells l).toArray (Lib.byteCells l).toArray h32_guardT
    unfold Oper.still execOp
    simp only [ho, hx, hy, Sem.run_bind, h2, Result.andThen_ok, run_hash_same l hl w]
    exact ⟨rfl, hK _ h⟩

set_option maxHeartbeats 2000000 in
set_option maxRecDepth 100000 in
theorem sameHashes_any (u v : Value) (n : Nat) (l : List UInt8) (w : World) (hn : n ≤ 9223372036854775807) (hu : HashIn w u n l) (hv : HashIn w v n l) :
    Calls Tryz.prog 14 #[u, v] w fun e w' => e = .returned (.bool true) ∧ Below w.heap.size w w' := by
  obtain ⟨hl, ao, cap, rfl, hr⟩ := hu
  obtain ⟨_, ao2, cap2, rfl, hr2⟩ := hv
  have HR := Lib.hid hr
  have HR2 := Lib.hid hr2
  clear hr hr2
  go_enter Tryz.func14, Tryz.ntmps14
  go_wp2_with fail
  go_loopw [5] (fun vi wr => ∃ i : Nat, i ≤ n ∧ vi = .int .i64 (i : Int) ∧ Below w.heap.size w wr) (fun vi _ => n - (intOf vi).toNat)
  case atStart => exact ⟨0, Nat.zero_le _, rfl, Below.refl _ _⟩
  case round =>
    obtain ⟨i, hin, rfl, hbel⟩ := hrel
    rename World => wA
    by_cases hi : i < n
    · have i1 : (i : Int) < (n : Int) := by omega
      have i3 : ((i : Int) * 32).toNat = i * 32 := by omega
      obtain ⟨g, o, rfl, hg⟩ := HR.out (by omega)
      obtain ⟨g2, o2, rfl, hg2⟩ := HR2.out (by omega)
      have rA := range_at (range_below hbel hg) i
      have rB := range_at (range_below hbel hg2) i
      have h32 := hashAt_len hl hi
      have hgw : g < wA.heap.size := by
        obtain ⟨b, hb⟩ : ∃ b, l[0]? = some b := ⟨_, List.getElem?_eq_getElem (by omega)⟩
        exact lt_of_cell (range_below hbel hg 0 _ (by unfold Lib.byteCells; rw [List.getElem?_map, hb]; rfl))
      have hgw2 : g2 < wA.heap.size := by
        obtain ⟨b, hb⟩ : ∃ b, l[0]? = some b := ⟨_, List.getElem?_eq_getElem (by omega)⟩
        exact lt_of_cell (range_below hbel hg2 0 _ (by unfold Lib.byteCells; rw [List.getElem?_map, hb]; rfl))
      generalize hashAt l i = hb at *
      have HBEL := Lib.hid hbel
      have HA := Lib.hid rA
      have HB := Lib.hid rB
      clear hbel hg hg2 rA rB HR HR2
      go_wp2_with fail
      refine wp_region_still_lit (by kernel_rfl) (by kernel_rfl) ?_
      still_step
      still_step
      still_step
      refine wpStill_hash (by rfl) (.tmp 19) (by rfl) g (o + i * 32) (by rfl) hb h32 HA.out ?_
      still_step
      still_step
      still_step
      refine wpStill_hash (by rfl) (.tmp 23) (by rfl) g2 (o2 + i * 32) (by rfl) hb h32 HB.out ?_
      refine wpStill_hashNe (by rfl) (.tmp 20) (.tmp 24) _ (by rfl) hb (by rfl) (by rfl) h32 ?_
      refine wpStill_nil ?_
      go_wp2_with fail
      go_roundw
      case rel => exact ⟨i + 1, by omega, by go_num, below_drewN HBEL.out 1⟩
      case measure => simp [intOf]; omega
    · have i1 : ¬ (i : Int) < (n : Int) := by omega
      go_wp2_with fail
      go_ret
      exact ⟨rfl, hbel⟩

/-! ### Decode -/
theorem bytes_belowH {B : Nat} {a w : World} (h : Below B a w) (e : TypeId) (s : ByteArray) (hB : B ≤ w.heap.size := by omega) : Below B a (Lib.bytesWorld w e s) :=
  ⟨h.os, h.tape, h.output, Nat.le_trans h.size (by rw [Lib.bytesWorld_size]; omega), fun k hk => (Lib.bytesWorld_at_old w e s k (by omega)).trans (h.block k hk)⟩
theorem owns_anyH {B : Nat} {w : World} {t : TypeId} {m : Nat} {v : Value} {n : Nat} {cs : List Value} (h : w.ownsRow B t m v n cs) : ∃ ao cap, v = .slice ao n cap := by
  rcases h.2 with ⟨rfl, rfl⟩ | ⟨g, cap, cur, rfl, _⟩
  · exact ⟨none, 0, rfl⟩
  · exact ⟨_, _, rfl⟩
theorem owns_hash {w : World} {B : Nat} {v : Value} {n : Nat} {l : List UInt8} (hl : l.length = 32 * n) (h : w.ownsRow B 70 32 v n (Lib.byteCells l)) : HashIn w v n l := by
  refine ⟨hl, ?_⟩
  rcases h.2 with ⟨rfl, h0⟩ | ⟨g, cap, cur, rfl, _⟩
  · exact ⟨none, 0, by rw [h0], fun h => by omega⟩
  · refine ⟨_, cap, rfl, fun _ => ⟨g, 0, rfl, fun j u hu => ?_⟩⟩
    have := h.cells (g := g) rfl j u hu
    rwa [Addr.add_mid] at this
theorem decode_width (S : Nat → Addr) (s : ByteArray) (wd : Int) (w : World) (hB : Base S w) (h : wd < 1 ∨ 256 < wd) :
    Calls Tryz.prog 11 #[.string s, .int .i64 wd] w fun e w' => e = .returned (.tuple #[.slice none 0 0, errV S 2]) ∧ Below w.heap.size w w' := by
  have g2 := hB.var 2 (by omega) (by omega)
  simp only [errG, errV] at g2 ⊢
  clear hB
  by_cases h1 : wd < 1
  · go_enter Tryz.func11, Tryz.ntmps11
    go_wp2_with fail
    go_quiet (fail)
    go_wp2_with fail
    go_ret2
    exact ⟨rfl, below_drewN (Below.refl _ _) _⟩
  · have h2 : 256 < wd := by omega
    clear h
    go_enter Tryz.func11, Tryz.ntmps11
    go_wp2_with fail
    go_quiet (fail)
    go_wp2_with fail
    go_ret2
    exact ⟨rfl, below_drewN (Below.refl _ _) _⟩
theorem decode_size (S : Nat → Addr) (s : ByteArray) (wd : Int) (w : World) (hB : Base S w) (h1 : 1 ≤ wd) (h2 : wd ≤ 256) (h3 : (s.size : Int) ≠ 32 * wd) :
    Calls Tryz.prog 11 #[.string s, .int .i64 wd] w fun e w' => e = .returned (.tuple #[.slice none 0 0, errV S 3]) ∧ Below w.heap.size w w' := by
  have g2 := hB.var 3 (by omega) (by omega)
  simp only [errG, errV] at g2 ⊢
  clear hB
  have n1 : ¬ wd < 1 := by omega
  have n2 : ¬ 256 < wd := by omega
  go_enter Tryz.func11, Tryz.ntmps11
  go_wp2_with fail
  go_quiet (fail)
  go_wp2_with fail
  go_ret2
  exact ⟨rfl, below_drewN (Below.refl _ _) _⟩
theorem ownBlock_neH {w : World} {B : Nat} {e T : TypeId} {m : Nat} {v : Value} {n : Nat} {xs : List Value} {b : Nat} {cs : Array Value} {fr : Nat × Nat} (hown : w.ownsRow B e m v n xs) (hb : w.heap[b]? = some (.cells cs T fr)) (hTe : T ≠ e) : v.ownBlock ≠ some b := by
  rcases hown.2 with ⟨rfl, _⟩ | ⟨g, cap, cur, rfl, _, hg, _⟩
  · intro h; cases h
  · intro h
    have : g = b := Option.some.inj h
    subst this
    rw [hb] at hg
    simp only [Option.some.injEq, Obj.cells.injEq] at hg
    exact hTe hg.2.1
theorem infoHash : (Tryz.prog.info? 70).map (fun i => (i.zero, i.size, i.bytes)) = some (some (.agg (Array.replicate 32 (.int .u8 0))), 32, 32) := by kernel_rfl
theorem run_arrayAt32 (a : Addr) (W : World) : (Instr.arrayAt 70 (.slice (some a) 32 32)).run Tryz.prog W = .ok (.pointer (some a)) W := by
  unfold Instr.arrayAt
  rw [Sem.run_bind, run_underlying Tryz.underlying70 W]
  simp
theorem fold_at : ∀ (vs : List Value) (k : Nat) (cs : Array Value) (j : Nat), k + vs.length ≤ cs.size →
    (List.foldl (fun (cs : Array Value) (x : Value × Nat) => cs.setIfInBounds x.snd x.fst) cs (vs.zipIdx k))[j]? = if k ≤ j ∧ j < k + vs.length then vs[j - k]? else cs[j]?
  | [], k, cs, j, _ => by
    rw [if_neg (by rw [List.length_nil]; omega)]
    rfl
  | v :: vs, k, cs, j, h => by
    rw [List.length_cons] at h
    rw [List.zipIdx_cons, List.foldl_cons, fold_at vs (k + 1) _ j (by rw [Array.size_setIfInBounds]; omega), List.length_cons]
    by_cases e : j = k
    · subst e
      rw [if_neg (by omega), if_pos (by omega), Array.getElem?_setIfInBounds_self_of_lt (by omega), Nat.sub_self]
      rfl
    · by_cases h1 : k + 1 ≤ j ∧ j < k + 1 + vs.length
      · rw [if_pos h1, if_pos (by omega), show j - k = (j - (k + 1)) + 1 by omega]
        rfl
      · rw [if_neg h1, if_neg (by omega), Array.getElem?_setIfInBounds_ne (fun e2 => e e2.symm)]
theorem fold_all (vs : List Value) (cs : Array Value) (h : cs.size = vs.length) : List.foldl (fun (cs : Array Value) (x : Value × Nat) => cs.setIfInBounds x.snd x.fst) cs vs.zipIdx = vs.toArray := by
  refine Array.ext_getElem? fun j => ?_
  rw [fold_at vs 0 cs j (by omega), Nat.zero_add, Nat.sub_zero]
  by_cases hj : j < vs.length
  · rw [if_pos ⟨Nat.zero_le _, hj⟩, List.getElem?_toArray]
  · rw [if_neg (by omega), Array.getElem?_eq_none (by omega), Array.getElem?_eq_none (by rw [List.size_toArray]; omega)]
def sliceLen : Value → Nat
  | .slice _ n _ => n
  | _ => 0
theorem bytesCells_at (w : World) (e : TypeId) (s : ByteArray) (j : Nat) (v : Value) (h : (Lib.byteCells s.data.toList)[j]? = some v) : (Lib.bytesCells w e s)[j]? = some v := by
  unfold Lib.byteCells at h
  rw [List.getElem?_map] at h
  obtain ⟨b, hb, rfl⟩ := Option.map_eq_some_iff.1 h
  unfold Lib.bytesCells
  rw [Array.getElem?_append_left (by
    have := (List.getElem?_eq_some_iff.1 hb).1
    rw [Array.size_map]
    simpa using this), Array.getElem?_map]
  rw [Array.getElem?_toList] at hb
  rw [hb]
  rfl
def DecRel (w : World) (C n : Nat) (l : List UInt8) (BC : Array Value) (fz : Nat × Nat) (vl vb : Value) (wr : World) : Prop :=
  ∃ i off : Nat, i ≤ n ∧ vb = .slice (some ⟨w.heap.size, off, none⟩) (32 * n - 32 * i) (C - 32 * i) ∧ (i < n → off = 32 * i) ∧ wr.ownsRow w.heap.size 70 32 vl i (Lib.byteCells (l.take (32 * i))) ∧ wr.heap[w.heap.size]? = some (.cells BC 5 fz) ∧ Below w.heap.size w wr
set_option maxHeartbeats 4000000 in
set_option maxRecDepth 100000 in
theorem decode_any (s : ByteArray) (n : Nat) (w : World) (h1 : 1 ≤ n) (h2 : n ≤ 256) (h3 : s.size = 32 * n) :
    Calls Tryz.prog 11 #[.string s, .int .i64 (n : Int)] w fun e w' => ∃ vl, e = .returned (.tuple #[vl, .nilIface]) ∧ w'.ownsRow w.heap.size 70 32 vl n (Lib.byteCells s.data.toList) ∧ Below w.heap.size w w' := by
  obtain ⟨i0, hi, hz⟩ := Option.map_eq_some_iff.1 infoHash
  simp only [Prod.mk.injEq] at hz
  obtain ⟨hz0, hz1, hz2⟩ := hz
  have n1 : ¬ (n : Int) < 1 := by omega
  have n2 : ¬ (256 : Int) < (n : Int) := by omega
  have n3 : (s.size : Int) = 32 * (n : Int) := by omega
  have hcv := Lib.run_convert_string_bytes (P := Tryz.prog) w 9 81 5 s Tryz.underlying9 Tryz.underlying81 Tryz.underlying5
  have hC := grownCap_ge w s.size 0 5
  have hbw := bytes_belowH (Below.refl w.heap.size w) 5 s
  have hrow := Lib.bytesWorld_at_new w 5 s
  have HBC := Lib.hid (bytesCells_at w 5 s)
  generalize Lib.bytesWorld w 5 s = wB at *
  generalize grownCap w s.size 0 5 = C at *
  generalize Lib.bytesCells w 5 s = BC at *
  generalize (BC.size, BC.size + 1) = fz at *
  have hl : s.data.toList.length = 32 * n := by rw [size_listT, h3]
  have HROW := Lib.hid hrow
  have HBW := Lib.hid hbw
  clear hrow hbw
  go_enter Tryz.func11, Tryz.ntmps11
  go_wp2_with fail
  go_loopw [6, 7] (fun vl vb wr => DecRel w C n s.data.toList BC fz vl vb wr) (fun _ vb _ => sliceLen vb)
  case atStart => exact ⟨0, 0, Nat.zero_le _, by simp, fun _ => rfl, World.ownsRow_nil _ _ _ _, HROW.out, HBW.out⟩
  case round =>
    obtain ⟨i, off, hin, rfl, hoff, hown, hrow, hbel⟩ := hrel
    rename World => wA
    by_cases hi' : i < n
    · obtain rfl := hoff hi'
      obtain ⟨ao, cp, rfl⟩ := owns_anyH hown
      have hrA := range_at (W := wA) (g := w.heap.size) (o := 0) (l := s.data.toList) (fun j v hv => by rw [Nat.zero_add]; exact cell_of hrow j (HBC.out j v hv)) i
      rw [Nat.zero_add, Nat.mul_comm i 32] at hrA
      have h32 := hashAt_len hl hi'
      have HT := Lib.hid (take_hash s.data.toList i)
      generalize hashAt s.data.toList i = hb at *
      have hsz : (Tryz.prog.info? 70).map (·.size) = some (Lib.byteCells hb).length := by rw [Lib.byteCells_length, h32]; exact hashInfo
      have g0 : (0 : Int) < ((32 * n - 32 * i : Nat) : Int) := by omega
      have g1 : (32 : Int) ≤ ((32 * n - 32 * i : Nat) : Int) := by omega
      have g2 : (32 : Int) ≤ ((C - 32 * i : Nat) : Int) := by omega
      have harr := run_arrayAt32 ⟨w.heap.size, 32 * i, none⟩
      have HRA := Lib.hid hrA
      have HOW := Lib.hid hown
      have HRW := Lib.hid hrow
      have HBE := Lib.hid hbel
      clear hrA hown hrow hbel HROW HBW
      have hl32 : (Lib.byteCells hb).length = 32 := by rw [Lib.byteCells_length, h32]
      have hfold := fold_all (Lib.byteCells hb) #[Value.int IntKind.u8 0, Value.int IntKind.u8 0, Value.int IntKind.u8 0, Value.int IntKind.u8 0, Value.int IntKind.u8 0, Value.int IntKind.u8 0, Value.int IntKind.u8 0, Value.int IntKind.u8 0, Value.int IntKind.u8 0, Value.int IntKind.u8 0, Value.int IntKind.u8 0, Value.int IntKind.u8 0, Value.int IntKind.u8 0, Value.int IntKind.u8 0, Value.int IntKind.u8 0, Value.int IntKind.u8 0, Value.int IntKind.u8 0, Value.int IntKind.u8 0, Value.int IntKind.u8 0, Value.int IntKind.u8 0, Value.int IntKind.u8 0, Value.int IntKind.u8 0, Value.int IntKind.u8 0, Value.int IntKind.u8 0, Value.int IntKind.u8 0, Value.int IntKind.u8 0, Value.int IntKind.u8 0, Value.int IntKind.u8 0, Value.int IntKind.u8 0, Value.int IntKind.u8 0, Value.int IntKind.u8 0, Value.int IntKind.u8 0] (by rw [Lib.byteCells_length, h32]; rfl)
      go_wp2_with (first | (refine wpList_load_mid (by rfl) 70 (.tmp 31) (by rfl) w.heap.size (32 * i) (by rfl) (Lib.byteCells hb) _ HRA.out Tryz.underlying70 rfl hsz ?_) | (at_builtin; refine wpList_append_own _ rfl _ _ 22 rfl w.heap.size 70 i0 (.agg (Array.replicate 32 (.int .u8 0))) 32 32 Tryz.underlying22 hi hz0 hz1 hz2 rfl (by decide) _ _ _ rfl (HOW.out.alloc _) ⟨wA.heap.size, 0, none⟩ 1 1 (Lib.byteCells hb) rfl (by rw [Lib.byteCells_length, h32]) (fun j u hj => by rw [Addr.add_mid, Nat.zero_add]; exact cell_of (heap_one wA _) j (by simpa using hj)) ?c2 ?c3 ?c4 ?c5 ?_))
      case c2 =>
        intro u hu
        obtain ⟨b, _, rfl⟩ := List.mem_map.1 hu
        rfl
      case c3 => unfold maxLen; omega
      case c4 => omega
      case c5 => have := HBE.out.size; simp; omega
      intro v' w2 hown2 hgrow _
      have hb1 := HBE.out.alloc HBE.out.size (.cells (Lib.byteCells hb).toArray 70)
      have hbel2 : Below w.heap.size w w2 := hb1.grown hgrow hb1.size (fun j hj => (HOW.out.lt j hj).1)
      have hne : Value.ownBlock (.slice ao i cp) ≠ some w.heap.size := ownBlock_neH HOW.out HRW.out (by decide)
      have hrow2 : w2.heap[w.heap.size]? = some (.cells BC 5 fz) := by
        rw [hgrow.block _ (by have := lt_of_heap HRW.out; simp; omega) (fun e => hne e.symm)]
        exact (heap_alloc_old _ _ (lt_of_heap HRW.out)).trans HRW.out
      rw [show Lib.byteCells (s.data.toList.take (32 * i)) ++ Lib.byteCells hb = Lib.byteCells (s.data.toList.take (32 * (i + 1))) by rw [HT.out]; simp [Lib.byteCells]] at hown2
      have HO2 := Lib.hid hown2
      have HB2 := Lib.hid hbel2
      have HR2 := Lib.hid hrow2
      clear hown2 hbel2 hrow2 hgrow hb1 hne hfold HRA HOW HRW HBE
      go_wp2_with fail
      refine ⟨⟨i + 1, if C - 32 * i = 32 then 32 * i else 32 * i + 32, by omega, ?_, ?_, HO2.out, HR2.out, HB2.out⟩, by simp only [sliceLen]; omega⟩
      · rw [show 32 * n - 32 * i - 32 = 32 * n - 32 * (i + 1) by omega, show C - 32 * i - 32 = C - 32 * (i + 1) by omega]
        split <;> rfl
      · intro h
        rw [if_neg (by omega)]
        omega
    · obtain rfl : i = n := by omega
      have g0 : ¬ (0 : Int) < ((32 * i - 32 * i : Nat) : Int) := by omega
      have hfin : s.data.toList.take (32 * i) = s.data.toList := List.take_of_length_le (by omega)
      rw [hfin] at hown
      have HO := Lib.hid hown
      have HBE := Lib.hid hbel
      clear hfin hown hbel hrow
      go_wp2_with fail
      go_ret2
      exact ⟨_, rfl, HO.out, HBE.out⟩
end Go.Proofs.YtlahdjdbbfjadaaGreatDoor
