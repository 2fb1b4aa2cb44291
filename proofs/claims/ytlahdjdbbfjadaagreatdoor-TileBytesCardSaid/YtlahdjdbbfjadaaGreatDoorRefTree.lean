/-
  A row of bytes of the call's own, out of a conversion or grown from one: a byte more behind it. The document's SHA-256 (cartularyref04): table, start and padded by their contracts. The document's SHA-256 (cartularyref04): Sum by its contract (printed by wip/mk_ref4.py). cartularyref05: bytes, NodeText, Node by their contracts. cartularyref11: tree by its contract.
-/
import Derived.Test.YtlahdjdbbfjadaaGreatDoorTileH
import Derived.Test.YtlahdjdbbfjadaaGreatDoorRefSha2
import Derived.Test.YtlahdjdbbfjadaaGreatDoorKept
import Derived.Test.YtlahdjdbbfjadaaGreatDoorConv
import Derived.Test.YtlahdjdbbfjadaaGreatDoorTreeP
namespace Go.Proofs.YtlahdjdbbfjadaaGreatDoor
open Go.RowKit

/-- A slice of a block of the call's own that reads as these bytes; its room may be written. -/
def BytesAt (B : Nat) (w : World) (v : Value) (l : List UInt8) : Prop :=
  ∃ g cap, v = .slice (some ⟨g, 0, none⟩) l.length cap ∧ B ≤ g ∧ g < w.heap.size ∧ l.length ≤ cap ∧ w.rangeAt g 0 (Lib.byteCells l) ∧ w.there g 0 cap
theorem BytesAt.below {B : Nat} {w w' : World} {v : Value} {l : List UInt8} (h : BytesAt B w v l) (hb : Below w.heap.size w w') : BytesAt B w' v l := by
  obtain ⟨g, cap, rfl, hB, hg, hc, hr, ht⟩ := h
  exact ⟨g, cap, rfl, hB, Nat.lt_of_lt_of_le hg hb.size, hc, range_below hb hr, there_heap ht (hb.block g hg)⟩
theorem infoU8 : (Tryz.prog.info? 5).map (fun i => (i.zero, i.size, i.bytes)) = some (some (.int .u8 0), 1, 1) := by kernel_rfl
theorem there_row {w : World} {g n lo hi : Nat} {cs : Array Value} {t : TypeId} (h : w.heap[g]? = some (.cells cs t (lo, hi))) (hn : n ≤ cs.size) (hlo : n ≤ lo ∨ hi ≤ lo) : w.there g 0 n := fun j hj => by
  rw [Nat.zero_add]
  constructor
  · unfold World.cell?
    simp only [h]
    rw [Array.getElem?_eq_getElem (show j < cs.size by omega)]
    rfl
  · unfold World.frozen?
    simp only [h]
    simp
    omega
theorem bytes_conv (w : World) (s : ByteArray) : BytesAt w.heap.size (Lib.bytesWorld w 5 s) (.slice (some ⟨w.heap.size, 0, none⟩) s.size (grownCap w s.size 0 5)) s.data.toList := by
  have hge := grownCap_ge w s.size 0 5
  have hsz : s.data.toList.length = s.size := Array.length_toList
  have hrow := Lib.bytesWorld_at_new w 5 s
  have hcs : (Lib.bytesCells w 5 s).size = grownCap w s.size 0 5 := by
    have e : s.data.size = s.size := rfl
    unfold Lib.bytesCells
    rw [Array.size_append, Array.size_map, Array.size_replicate, e]
    omega
  refine ⟨w.heap.size, _, by rw [hsz], Nat.le_refl _, by rw [Lib.bytesWorld_size]; omega, by omega, fun j v hv => ?_, there_row hrow (by omega) (.inl (by omega))⟩
  rw [Nat.zero_add]
  exact cell_of hrow j (bytesCells_at w 5 s j v hv)
set_option maxHeartbeats 1000000 in
theorem bytes_push {B : Nat} {W : World} {v : Value} {l : List UInt8} (h : BytesAt B W v l) (ad : Addr) (c : UInt8) (hnew : W.cell? ad = some (.int .u8 (c.toNat : Int))) (hlen : l.length + 1 ≤ 70368744177664) (hBW : B ≤ W.heap.size) (ty : TypeId) :
    ∃ v' W', (Builtin.append_ #[81, 81] ty #[v, .slice (some ad) 1 1]).run Tryz.prog W = .ok v' W' ∧ BytesAt B W' v' (l ++ [c]) ∧ Below B W W' := by
  obtain ⟨i0, hi, hz⟩ := Option.map_eq_some_iff.1 infoU8
  simp only [Prod.mk.injEq] at hz
  obtain ⟨hz0, hz1, hz2⟩ := hz
  obtain ⟨g, cap, rfl, hB, hg, hc, hr, ht⟩ := h
  have hnews : ∀ j u, [Value.int .u8 (c.toNat : Int)][j]? = some u → W.cell? (ad.add j) = some u := fun j u hj => by
    match j, hj with
    | 0, hj => simp at hj; subst hj; simpa [Addr.add] using hnew
  have h1 : ∀ u ∈ [Value.int .u8 (c.toNat : Int)], u.oneCell' = true := by intro u hu; simp at hu; subst hu; rfl
  have hbc : Lib.byteCells (l ++ [c]) = Lib.byteCells l ++ [Value.int .u8 (c.toNat : Int)] := by simp [Lib.byteCells]
  have hbl : (Lib.byteCells l).length = l.length := Lib.byteCells_length l
  by_cases hroom : l.length + 1 ≤ cap
  · have hrun := run_append_room_cells (P := Tryz.prog) W 81 ty 5 i0 Tryz.underlying81 hi g 0 l.length cap ad 1 1 [Value.int .u8 (c.toNat : Int)] (by rw [hz1]; rfl) hnews h1 hroom (fun j hj => by
        rw [hz1, Nat.mul_one, Nat.zero_add]
        have := ht (l.length + j) (by simp at hj; omega)
        rw [Nat.zero_add] at this
        exact this.1) (fun j hj => by
        rw [hz1, Nat.mul_one, Nat.zero_add]
        have := ht (l.length + j) (by simp at hj; omega)
        rw [Nat.zero_add] at this
        exact this.2)
    rw [hz1, Nat.mul_one, Nat.zero_add] at hrun
    refine ⟨_, _, hrun, ⟨g, cap, by simp, hB, ?_, by simp; omega, ?_, World.there_setCells ht g l.length _⟩, below_setCells hB _ _ _ (Below.refl _ _)⟩
    · exact Nat.lt_of_lt_of_le hg (below_setCells (B := 0) (Nat.zero_le g) [Value.int .u8 (c.toNat : Int)] l.length W (Below.refl _ _)).size
    · rw [hbc]
      refine range_app ?_ ?_
      · exact World.rangeAt_setCells_apart hr _ _ _ (.inr (.inl (by rw [hbl]; omega)))
      · rw [hbl, Nat.zero_add]
        refine World.rangeAt_setCells_same _ _ _ _ (fun j hj => ?_)
        have := ht (l.length + j) (by simp at hj; omega)
        rwa [Nat.zero_add] at this
  · have hrun := run_append_grow (P := Tryz.prog) W 81 ty 5 i0 (.int .u8 0) Tryz.underlying81 hi hz0 ⟨g, 0, none⟩ l.length cap (Lib.byteCells l) (by rw [hz1, hbl, Nat.mul_one]) (fun j u hj => by
        rw [Addr.add_mid]
        exact hr j u hj) ad 1 1 [Value.int .u8 (c.toNat : Int)] (by rw [hz1]; rfl) hnews (by omega) (by omega) (growslice_fits (by omega) (by rw [hz2]; omega))
    have hge := grownCap_ge W (l.length + 1) cap 5
    have hbW : Below W.heap.size W (W.drew.alloc (.cells ((Lib.byteCells l).toArray ++ [Value.int .u8 (c.toNat : Int)].toArray ++ Builtin.zeroCells (Value.int .u8 0).cells (grownCap W (l.length + 1) cap 5 - (l.length + 1))) 5)) := (Below.refl _ W).drew.alloc (Nat.le_refl _) _
    have hrow := heap_alloc_new W.drew (.cells ((Lib.byteCells l).toArray ++ [Value.int .u8 (c.toNat : Int)].toArray ++ Builtin.zeroCells (Value.int .u8 0).cells (grownCap W (l.length + 1) cap 5 - (l.length + 1))) 5)
    have hsz : ((Lib.byteCells l).toArray ++ [Value.int .u8 (c.toNat : Int)].toArray ++ Builtin.zeroCells (Value.int .u8 0).cells (grownCap W (l.length + 1) cap 5 - (l.length + 1))).size = grownCap W (l.length + 1) cap 5 := by
      simp only [Array.size_append, List.size_toArray, hbl, Builtin.zeroCells]
      simp [Value.cells]
      omega
    refine ⟨_, _, hrun, ⟨W.heap.size, grownCap W (l.length + 1) cap 5, by rw [List.length_append]; rfl, hBW, lt_of_heap hrow, by rw [List.length_append]; exact hge, fun j u hj => ?_, there_row (lo := 0) (hi := 0) hrow (by rw [hsz]; exact Nat.le_refl _) (.inr (Nat.le_refl _))⟩, hbW.mono hBW⟩
    · rw [Nat.zero_add]
      refine cell_of hrow j ?_
      rw [hbc] at hj
      rw [Array.getElem?_append_left (by have := (List.getElem?_eq_some_iff.1 hj).1; simp [hbl] at this ⊢; omega)]
      simpa using hj
theorem wpList_push {ops : Array Oper} {rest : List Oper} {o : Oper} {a : Act} {Q : Exit → Act → World → Prop} {W : World} (hgd : o.guard = none) (s x : Operand)
    (ho : o.op = .call { callee := .builtin .append, args := #[s, x], argTypes := #[81, 81] }) {B : Nat} {v : Value} {l : List UInt8} (hs : a.eval s = v) (hv : BytesAt B W v l)
    (ad : Addr) (c : UInt8) (hx : a.eval x = .slice (some ad) 1 1) (hnew : W.cell? ad = some (.int .u8 (c.toNat : Int))) (hlen : l.length + 1 ≤ 70368744177664) (hBW : B ≤ W.heap.size)
    (h : ∀ v' W', BytesAt B W' v' (l ++ [c]) → Below B W W' → wpList Tryz.prog ops Q rest (a.put o.dst v') W') : wpList Tryz.prog ops Q (o :: rest) a W :=
  wpList_plain hgd fun K hK => by
    obtain ⟨v', W', hrun, h2, h3⟩ := bytes_push hv ad c hnew hlen hBW o.type
    unfold Oper.wp execOp
    simp only [ho, resolve, invoke, builtin, Sem.run_bind, Sem.run_pure, Result.andThen_ok, List.map_toArray, List.map_cons, List.map_nil, hs, hx, hrun]
    exact hK _ _ (h v' W' h2 h3)
end Go.Proofs.YtlahdjdbbfjadaaGreatDoor

namespace Go.Proofs.YtlahdjdbbfjadaaGreatDoor
open Go.RowKit

/-- An operation that answers one value in every world. -/
theorem wpList_run {ops : Array Oper} {rest : List Oper} {o : Oper} {a : Act} {Q : Exit → Act → World → Prop} {W : World} (hgd : o.guard = none) (_ : ∃ T p, o.op = .build T p) (v : Value) (hr : ∀ w, (execOp a.eval o).run Tryz.prog w = .ok (.value v) w)
    (h : wpList Tryz.prog ops Q rest (a.put o.dst v) W) : wpList Tryz.prog ops Q (o :: rest) a W :=
  wpList_plain hgd fun K hK => by
    unfold Oper.wp
    rw [hr]
    exact hK _ _ h
theorem BytesAt.form {B : Nat} {w : World} {v : Value} {l : List UInt8} (h : BytesAt B w v l) : ∃ g cap, v = .slice (some ⟨g, 0, none⟩) l.length cap := by
  obtain ⟨g, cap, rfl, _⟩ := h
  exact ⟨g, cap, rfl⟩
theorem wpList_pushN {ops : Array Oper} {rest : List Oper} {o : Oper} {a : Act} {Q : Exit → Act → World → Prop} {W : World} (hgd : o.guard = none) (s x : Operand)
    (ho : o.op = .call { callee := .builtin .append, args := #[s, x], argTypes := #[81, 81] }) {B : Nat} {v : Value} {l : List UInt8} (hs : a.eval s = v) (hv : BytesAt B W v l)
    (y : Int) (n : Nat) (hx : a.eval x = .slice (some ⟨W.heap.size, 0, none⟩) 1 1) (hn : l.length = n) (hy : 0 ≤ y ∧ y ≤ 255) (hlen : n + 1 ≤ 70368744177664) (hBW : B ≤ W.heap.size)
    (h : ∀ g cap W', BytesAt B W' (.slice (some ⟨g, 0, none⟩) (n + 1) cap) (l ++ [UInt8.ofNat y.toNat]) → Below B W W' → wpList Tryz.prog ops Q rest (a.put o.dst (.slice (some ⟨g, 0, none⟩) (n + 1) cap)) W') :
    wpList Tryz.prog ops Q (o :: rest) a (W.alloc (.cells #[.int .u8 y] 5)) := by
  have e : ((UInt8.ofNat y.toNat).toNat : Int) = y := by
    rw [UInt8.toNat_ofNat', Nat.mod_eq_of_lt (by omega)]
    omega
  subst hn
  refine wpList_push hgd s x ho hs (hv.below (below_one W _)) ⟨W.heap.size, 0, none⟩ (UInt8.ofNat y.toNat) hx (by rw [e]; exact cell_of (heap_one W _) 0 rfl) hlen (Nat.le_trans hBW (by simp)) (fun v' W' h1 h2 => ?_)
  obtain ⟨g, cap, rfl⟩ := h1.form
  rw [List.length_append] at h1 ⊢
  exact h g cap W' h1 (((Below.refl _ W).alloc hBW _).trans h2)
def PadRel (w : World) (n : Nat) (l : List UInt8) (v : Value) (wr : World) : Prop := ∃ g cap, v = .slice (some ⟨g, 0, none⟩) n cap ∧ BytesAt w.heap.size wr (.slice (some ⟨g, 0, none⟩) n cap) l ∧ Below w.heap.size w wr
set_option maxHeartbeats 4000000 in
set_option maxRecDepth 100000 in
theorem rtable_any (w : World) : Calls Tryz.prog 175 #[] w fun e w' => e = .returned (.agg (u32s shaK)) ∧ Below w.heap.size w w' := by
  obtain ⟨zt, hzt, hz64⟩ := zero_64
  have HZ64 := Lib.hid (show (u32s zt).size = 64 by rw [u32s_size, hzt]; rfl)
  have HSZ := Lib.hid (show (u32s shaK).size = 64 by rw [u32s_size]; rfl)
  clear hzt
  go_enter Tryz.func175, Tryz.ntmps175
  go_upto_region 1 with fail
  have HR := Lib.hid (setRow_heap (w.alloc (.cells (u32s zt) 287)) w.heap.size _ (u32s shaK) 287 (0, 0) (heap_one w _))
  have HB := Lib.hid (below_setRow (below_one w (.cells (u32s zt) 287)) (Nat.le_refl _) (u32s shaK))
  have HO := Lib.hid (heap_one w (.cells (u32s zt) 287))
  go_wp2_with (first | (refine wpList_run (by rfl) ⟨_, _, rfl⟩ (.agg (u32s shaK)) (fun w => by kernel_rfl) ?_) | (refine wpList_store_row (by rfl) 287 (.tmp 0) (.tmp 1) (by rfl) w.heap.size (u32s shaK) (by rfl) (by rfl) 287 (u32s zt) HO.out (by rw [HSZ.out]; exact info64) (by rw [HSZ.out, HZ64.out]) (u32s_one shaK) ?_))
  exact bodyPost_ret (results_row0 rfl _ _ w.heap.size 287 _ (0, 0) _ rfl HR.out Tryz.underlying287 rfl (by rw [HSZ.out]; exact info64)) rfl ⟨rfl, HB.out⟩
set_option maxHeartbeats 4000000 in
set_option maxRecDepth 100000 in
theorem rstart_any (w : World) : Calls Tryz.prog 176 #[] w fun e w' => e = .returned (.agg (u32s (stL St.start))) ∧ Below w.heap.size w w' := by
  obtain ⟨zt, hzt, hz64⟩ := zero_8
  have HZ64 := Lib.hid (show (u32s zt).size = 8 by rw [u32s_size, hzt])
  have HSZ := Lib.hid (stL_size St.start)
  clear hzt
  go_enter Tryz.func176, Tryz.ntmps176
  go_upto_region 1 with fail
  have HR := Lib.hid (setRow_heap (w.alloc (.cells (u32s zt) 273)) w.heap.size _ (u32s (stL St.start)) 273 (0, 0) (heap_one w _))
  have HB := Lib.hid (below_setRow (below_one w (.cells (u32s zt) 273)) (Nat.le_refl _) (u32s (stL St.start)))
  have HO := Lib.hid (heap_one w (.cells (u32s zt) 273))
  go_wp2_with (first | (refine wpList_run (by rfl) ⟨_, _, rfl⟩ (.agg (u32s (stL St.start))) (fun w => by kernel_rfl) ?_) | (refine wpList_store_row (by rfl) 273 (.tmp 0) (.tmp 1) (by rfl) w.heap.size (u32s (stL St.start)) (by rfl) (by rfl) 273 (u32s zt) HO.out (by rw [HSZ.out]; exact info8) (by rw [HSZ.out, HZ64.out]) (u32s_one (stL St.start)) ?_))
  exact bodyPost_ret (results_row0 rfl _ _ w.heap.size 273 _ (0, 0) _ rfl HR.out Tryz.underlying273 rfl (by rw [HSZ.out]; exact info8)) rfl ⟨rfl, HB.out⟩
set_option maxHeartbeats 4000000 in
set_option maxRecDepth 100000 in
theorem rpadded_any (s : ByteArray) (w : World) (hs : s.size ≤ 35184372088832) :
    Calls Tryz.prog 174 #[.string s] w fun e w' => ∃ g cap, e = .returned (.slice (some ⟨g, 0, none⟩) (padL s.data.toList).length cap) ∧ BytesAt w.heap.size w' (.slice (some ⟨g, 0, none⟩) (padL s.data.toList).length cap) (padL s.data.toList) ∧ Below w.heap.size w w' := by
  have hcv := Lib.run_convert_string_bytes (P := Tryz.prog) w 9 81 5 s Tryz.underlying9 Tryz.underlying81 Tryz.underlying5
  have hbw := bytes_belowH (Below.refl w.heap.size w) 5 s
  have hby := bytes_conv w s
  obtain ⟨m, hm⟩ : ∃ m, s.data.toList = m := ⟨_, rfl⟩
  have hml : m.length = s.size := by rw [← hm]; exact Array.length_toList
  rw [hm] at hby ⊢
  generalize Lib.bytesWorld w 5 s = wB at *
  generalize grownCap w s.size 0 5 = C at *
  rw [← hml] at hby hcv
  have HBY := Lib.hid hby
  have HBW := Lib.hid hbw
  obtain ⟨zn, hzn⟩ : ∃ zn, zerosN m.length = zn := ⟨_, rfl⟩
  have hz1 : zn = (119 - m.length % 64) % 64 := by rw [← hzn]; rfl
  have HZ1 := Lib.hid hz1
  have HPD := Lib.hid (show padL m = m ++ 128 :: List.replicate zn 0 ++ lenBytes m.length by unfold padL tailOf; rw [hzn, List.append_assoc]; rfl)
  obtain ⟨nb, hnb⟩ : ∃ nb, m.length * 8 % 18446744073709551616 = nb := ⟨_, rfl⟩
  have HNB := Lib.hid hnb
  have HNI := Lib.hid (show (nb : Int) = (m.length : Int) * 8 by omega)
  have HML := Lib.hid hml
  have hml2 : m.length ≤ 35184372088832 := by omega
  have hsz : (s.size : Int) = (m.length : Int) := by omega
  clear hby hbw hzn hz1 hnb hm hml
  go_enter Tryz.func174, Tryz.ntmps174
  go_wp2_with (refine wpList_pushN (by rfl) (.tmp 8) (.tmp 9) (by rfl) (by rfl) HBY.out 128 m.length (by rfl) rfl (by decide) (by omega) HBW.out.size ?_)
  intro g0 cap0 W0 h1 h2
  have HR0 := Lib.hid (show PadRel w (m.length + 1 + 0) (m ++ 128 :: List.replicate 0 0) (.slice (some ⟨g0, 0, none⟩) (m.length + 1) cap0) W0 from ⟨g0, cap0, rfl, h1, HBW.out.trans h2⟩)
  clear h1 h2 hcv
  go_wp2_with fail
  go_loopw [3] (fun v wr => ∃ k : Nat, k ≤ zn ∧ PadRel w (m.length + 1 + k) (m ++ 128 :: List.replicate k 0) v wr) (fun v _ => m.length + 65 - sliceLen v)
  case atStart => exact ⟨0, Nat.zero_le _, HR0.out⟩
  case round =>
    obtain ⟨k, hk, g1, cap1, rfl, hby1, hbel1⟩ := hrel
    rename World => wA
    have HB1 := Lib.hid hby1
    have HE1 := Lib.hid hbel1
    clear hby1 hbel1 HR0
    by_cases hkz : k < zn
    · have hnei : ¬ ((m.length : Int) + 1 + (k : Int)) % 64 = 56 := by have := HZ1.out; omega
      have hn0 : (0 : Int) ≤ (m.length : Int) + 1 + (k : Int) := by omega
      have HZK := Lib.hid (show k < 64 by have := HZ1.out; omega)
      go_wp2_with (refine wpList_pushN (by rfl) (.tmp 15) (.tmp 16) (by rfl) (by rfl) HB1.out 0 (m.length + 1 + k) (by rfl) (by simp; omega) (by decide) (by have := HZK.out; omega) HE1.out.size ?_)
      intro g2 cap2 W2 h1 h2
      have HR2 := Lib.hid (show PadRel w (m.length + 1 + (k + 1)) (m ++ 128 :: List.replicate (k + 1) 0) (.slice (some ⟨g2, 0, none⟩) (m.length + 1 + k + 1) cap2) W2 from ⟨g2, cap2, rfl, by
        rw [List.replicate_succ']
        exact h1, HE1.out.trans h2⟩)
      clear h1 h2 hnei
      go_wp2_with fail
      refine ⟨⟨k + 1, hkz, HR2.out⟩, ?_⟩
      simp only [sliceLen]
      have := HZK.out
      omega
    · obtain rfl : zn = k := by omega
      have hnei : ((m.length : Int) + 1 + (zn : Int)) % 64 = 56 := by have := HZ1.out; omega
      have hn0 : (0 : Int) ≤ (m.length : Int) + 1 + (zn : Int) := by omega
      have HZK := Lib.hid (show zn < 64 by have := HZ1.out; omega)
      have hwb : IntKind.wrap .u64 ((m.length : Int) * 8) = (nb : Int) := by rw [wrap_bits, HNB.out]
      have HR3 := Lib.hid (show PadRel w (m.length + 1 + zn + 0) (m ++ 128 :: List.replicate zn 0 ++ (lenBytes m.length).take 0) (.slice (some ⟨g1, 0, none⟩) (m.length + 1 + zn) cap1) wA from ⟨g1, cap1, rfl, by rw [List.take_zero, List.append_nil]; exact HB1.out, HE1.out⟩)
      clear HB1 HE1
      go_wp2_with fail
      clear hnei hwb
      go_loopw [3, 5] (fun v vi wr => ∃ k : Nat, k ≤ 8 ∧ vi = .int .i64 (k : Int) ∧ PadRel w (m.length + 1 + zn + k) (m ++ 128 :: List.replicate zn 0 ++ (lenBytes m.length).take k) v wr) (fun _ vi _ => 8 - (intOf vi).toNat)
      case atStart => exact ⟨0, Nat.zero_le _, rfl, HR3.out⟩
      case round =>
        obtain ⟨k, hk8, rfl, g4, cap4, rfl, hby4, hbel4⟩ := hrel
        rename World => wB
        have HB4 := Lib.hid hby4
        have HE4 := Lib.hid hbel4
        clear hby4 hbel4 HR3
        by_cases hk : k < 8
        · have hk1 : (k : Int) < 8 := by omega
          have hi0 : (0 : Int) ≤ 56 - 8 * (k : Int) := by omega
          have hin : (56 - 8 * (k : Int)).toNat = 56 - 8 * k := by omega
          have hyb : 0 ≤ (nb : Int) / 2 ^ (56 - 8 * k) % 256 ∧ (nb : Int) / 2 ^ (56 - 8 * k) % 256 ≤ 255 := ⟨Int.emod_nonneg _ (by decide), by have := Int.emod_lt_of_pos ((nb : Int) / 2 ^ (56 - 8 * k)) (show (0 : Int) < 256 by decide); omega⟩
          have HYB := Lib.hid hyb
          have HYT := Lib.hid (show ((nb : Int) / 2 ^ (56 - 8 * k) % 256).toNat = m.length * 8 % 18446744073709551616 / 2 ^ (56 - 8 * k) % 256 by
            rw [HNB.out, show (nb : Int) / 2 ^ (56 - 8 * k) % 256 = ((nb / 2 ^ (56 - 8 * k) % 256 : Nat) : Int) by rw [Int.natCast_emod, Int.natCast_ediv, Int.natCast_pow]; rfl]
            exact Int.toNat_natCast _)
          clear hyb
          go_wp2_with (refine wpList_pushN (by rfl) (.tmp 26) (.tmp 33) (by rfl) (by rfl) HB4.out ((nb : Int) / 2 ^ (56 - 8 * k) % 256) (m.length + 1 + zn + k) (by rfl) (by simp [lenBytes]; omega) HYB.out (by have := HZK.out; omega) HE4.out.size ?_)
          intro g5 cap5 W5 h1 h2
          have HR5 := Lib.hid (show PadRel w (m.length + 1 + zn + (k + 1)) (m ++ 128 :: List.replicate zn 0 ++ (lenBytes m.length).take (k + 1)) (.slice (some ⟨g5, 0, none⟩) (m.length + 1 + zn + k + 1) cap5) W5 from ⟨g5, cap5, rfl, by
            rw [len_take m.length k hk, ← HYT.out, List.append_assoc]
            exact h1, HE4.out.trans h2⟩)
          clear h1 h2
          go_wp2_with fail
          refine ⟨⟨k + 1, hk, by go_num, HR5.out⟩, by simp [intOf]; omega⟩
        · obtain rfl : k = 8 := by omega
          have h1 : ¬ ((8 : Nat) : Int) < 8 := by decide
          have hfin := HB4.out
          rw [List.take_of_length_le (show (lenBytes m.length).length ≤ 8 from Nat.le_refl _), ← HPD.out] at hfin
          have HPL := Lib.hid (show (padL m).length = m.length + 1 + zn + 8 by rw [HPD.out]; simp [lenBytes]; omega)
          have HFI := Lib.hid hfin
          clear hfin
          go_wp2_with fail
          go_ret
          rw [HPL.out]
          exact ⟨g4, cap4, rfl, HFI.out, HE4.out⟩
end Go.Proofs.YtlahdjdbbfjadaaGreatDoor

namespace Go.Proofs.YtlahdjdbbfjadaaGreatDoor
open Go.RowKit

theorem zero_bytesR : ∃ zl : List UInt8, zl = List.replicate 32 0 ∧ (#[.int .u8 0, .int .u8 0, .int .u8 0, .int .u8 0, .int .u8 0, .int .u8 0, .int .u8 0, .int .u8 0, .int .u8 0, .int .u8 0, .int .u8 0, .int .u8 0, .int .u8 0, .int .u8 0, .int .u8 0, .int .u8 0, .int .u8 0, .int .u8 0, .int .u8 0, .int .u8 0, .int .u8 0, .int .u8 0, .int .u8 0, .int .u8 0, .int .u8 0, .int .u8 0, .int .u8 0, .int .u8 0, .int .u8 0, .int .u8 0, .int .u8 0, .int .u8 0] : Array Value) = (Lib.byteCells zl).toArray := ⟨List.replicate 32 0, rfl, by kernel_rfl⟩
/-- A whole row is read, in any such world. -/
theorem wpQuiet_rowLoad {ops : Array Oper} {W : World} {Q : Act → Prop} {rest : List Oper} {a : Act} {o : Oper} (hw : Region.wanted o (yielded ops a.tmps) = true) (T : TypeId) (x : Operand) (ho : o.op = .load T x)
    (g : Nat) (hx : a.eval x = .pointer (some ⟨g, 0, none⟩)) (t : TypeId) (cs : Array Value) (fr : Nat × Nat) {n : Nat} {e : TypeId} (hg : W.heap[g]? = some (.cells cs t fr))
    (hu : Tryz.prog.underlying T = some (.array n e)) (hi : (Tryz.prog.info? T).map (·.size) = some cs.size)
    (h : wpQuiet Tryz.prog ops (fun w' => ∃ x : Kept W, w' = x.w) Q rest (a.put o.dst (.agg cs))) : wpQuiet Tryz.prog ops (fun w' => ∃ x : Kept W, w' = x.w) Q (o :: rest) a :=
  wpQuiet_step fun K hK => by
    rw [if_pos hw]
    refine ⟨.agg cs, fun w hw => ?_, hK _ h⟩
    obtain ⟨y, rfl⟩ := hw
    unfold Oper.quietAt execOp
    simp only [ho, hx, Instr.loadAt, Instr.sureAddr, Sem.run_bind, Sem.run_pure, Result.andThen_ok, run_loadVar_row y.w g t T cs fr _ (y.heap_old hg) hu rfl hi]
    exact ⟨rfl, rfl⟩
def outI (s : St) (i : Nat) : List UInt8 := s.out.take i ++ List.replicate (32 - i) 0
theorem outI_len (s : St) (i : Nat) (h : i ≤ 32) : (outI s i).length = 32 := by
  unfold outI
  rw [List.length_append, List.length_take, List.length_replicate, show s.out.length = 32 from rfl]
  omega
theorem outI_zero (s : St) : outI s 0 = List.replicate 32 0 := rfl
theorem outI_end (s : St) : outI s 32 = s.out := by
  unfold outI
  rw [List.take_of_length_le (by rw [show s.out.length = 32 from rfl]; exact Nat.le_refl _), Nat.sub_self, List.replicate_zero, List.append_nil]
theorem outI_step (s : St) (i : Nat) (b : UInt8) (hi : i < 32) (hb : s.out[i]? = some b) : (outI s i).set i b = outI s (i + 1) := by
  unfold outI
  have hl : (s.out.take i).length = i := by rw [List.length_take, show s.out.length = 32 from rfl]; omega
  rw [List.set_append_right _ _ (by omega), hl, Nat.sub_self, show 32 - i = 32 - (i + 1) + 1 by omega, List.replicate_succ, List.set_cons_zero, List.take_add_one, hb, List.append_assoc]
  rfl
theorem out_at (s : St) (q : Nat) (h : q < 8) : s.out[4 * q]? = some (UInt8.ofNat ((stL s).getD q 0 / 16777216)) ∧ s.out[4 * q + 1]? = some (UInt8.ofNat ((stL s).getD q 0 / 65536 % 256)) ∧ s.out[4 * q + 2]? = some (UInt8.ofNat ((stL s).getD q 0 / 256 % 256)) ∧ s.out[4 * q + 3]? = some (UInt8.ofNat ((stL s).getD q 0 % 256)) := by
  have : q = 0 ∨ q = 1 ∨ q = 2 ∨ q = 3 ∨ q = 4 ∨ q = 5 ∨ q = 6 ∨ q = 7 := by omega
  rcases this with rfl | rfl | rfl | rfl | rfl | rfl | rfl | rfl <;> exact ⟨rfl, rfl, rfl, rfl⟩
theorem blocks_succ (s : St) (P : List UInt8) (j : Nat) : s.blocks P (j + 1) = (s.blocks P j).block ((P.drop (64 * j)).take 64) := rfl
set_option maxHeartbeats 4000000 in
set_option maxRecDepth 100000 in
theorem rsum_any (s : ByteArray) (w : World) (hs : s.size ≤ 35184372088832) :
    Calls Tryz.prog 154 #[.string s] w fun e w' => e = .returned (.agg (Lib.byteCells (shaL s.data.toList)).toArray) ∧ Below w.heap.size w w' := by
  obtain ⟨m, hm⟩ : ∃ m, s.data.toList = m := ⟨_, rfl⟩
  obtain ⟨P, hP⟩ : ∃ P, padL m = P := ⟨_, rfl⟩
  obtain ⟨R, hR⟩ : ∃ R, shaL m = R := ⟨_, rfl⟩
  obtain ⟨N, hN⟩ : ∃ N, P.length / 64 = N := ⟨_, rfl⟩
  have hPN : P.length = 64 * N := by
    have := padL_len m
    rw [hP] at this
    omega
  have HSH := Lib.hid (show (St.start.blocks P N).out = R by rw [← hR, ← hN, ← hP]; rfl)
  have HRL := Lib.hid (show R.length = 32 by rw [← hR]; exact shaL_len m)
  have hPM : P.length ≤ s.size + 200 := by
    have h1 : m.length = s.size := by rw [← hm]; exact Array.length_toList
    rw [← hP]
    unfold padL tailOf lenBytes zerosN
    simp only [List.length_append, List.length_cons, List.length_replicate, List.length_map, List.length_nil]
    omega
  have HPD := Lib.hid fun W => (by
    have h := rpadded_any s W hs
    rw [hm, hP, hPN] at h
    exact h : Calls Tryz.prog 174 #[.string s] W fun e w' => ∃ g cap, e = .returned (.slice (some ⟨g, 0, none⟩) (64 * N) cap) ∧ BytesAt W.heap.size w' (.slice (some ⟨g, 0, none⟩) (64 * N) cap) P ∧ Below W.heap.size W w')
  obtain ⟨ks, hks⟩ : ∃ ks, shaK = ks := ⟨_, rfl⟩
  have HKS := Lib.hid hks
  have HTB := Lib.hid fun W => (by
    have h := rtable_any W
    rw [hks] at h
    exact h : Calls Tryz.prog 175 #[] W fun e w' => e = .returned (.agg (u32s ks)) ∧ Below W.heap.size W w')
  obtain ⟨V0, hV0⟩ : ∃ V0, St.start = V0 := ⟨_, rfl⟩
  have HOK0 := Lib.hid (show V0.Ok by rw [← hV0]; exact St.Ok.start)
  have HST := Lib.hid fun W => (by
    have h := rstart_any W
    rw [hV0] at h
    exact h : Calls Tryz.prog 176 #[] W fun e w' => e = .returned (.agg (u32s (stL V0))) ∧ Below W.heap.size W w')
  rw [hV0] at HSH
  rw [hm, hR]
  have HSZ := Lib.hid (show (u32s ks).size = 64 by rw [u32s_size, ← hks]; rfl)
  have HS8 := Lib.hid (stL_size V0)
  have HPN := Lib.hid hPN
  have hN9 : 64 * N ≤ 35184372089032 := by omega
  obtain ⟨zl, hzl, hz32⟩ := zero_bytesR
  obtain ⟨zt, hzt, hz64⟩ := zero_64
  obtain ⟨z8, hz8, hz8a⟩ := zero_8
  have HZL := Lib.hid (show (Lib.byteCells zl).toArray.size = 32 by rw [List.size_toArray, Lib.byteCells_length, hzl]; rfl)
  have HZT := Lib.hid (show (u32s zt).size = 64 by rw [u32s_size, hzt]; rfl)
  have HZ8 := Lib.hid (show (u32s z8).size = 8 by rw [u32s_size]; exact hz8)
  have HZE := Lib.hid hzl
  clear hP hR hN hPN hPM hks hV0 hzl hzt hz8 hm
  go_enter Tryz.func154, Tryz.ntmps154
  go_upto_region 1 with fail
  have HR1 := Lib.hid (heap_one w (.cells (Lib.byteCells zl).toArray 70))
  have HB1 := Lib.hid (below_one w (.cells (Lib.byteCells zl).toArray 70))
  generalize (w.alloc (.cells (Lib.byteCells zl).toArray 70)) = w1 at *
  go_wp2_with (go_at_call 174; refine (HPD.out w1).mono ?_)
  first
    | rintro e w2 gp cap rfl hby hb2
    | rintro e w2 ⟨gp, cap, rfl, hby, hb2⟩
  have HR2 := Lib.hid (below_heap hb2 HR1.out)
  have HB2 := Lib.hid (HB1.out.trans (hb2.mono HB1.out.size))
  have HBY2 := Lib.hid hby
  clear hby hb2
  go_wp2_with (go_at_call 175; refine (HTB.out w2).mono ?_)
  first
    | rintro e w3 rfl hb3
    | rintro e w3 ⟨rfl, hb3⟩
  have b4 := below_one w3 (.cells (u32s ks) 287)
  have HR4 := Lib.hid (below_heap b4 (below_heap hb3 HR2.out))
  have HBY4 := Lib.hid ((HBY2.out.below hb3).below b4)
  have HT4 := Lib.hid (heap_one w3 (.cells (u32s ks) 287))
  have HB4 := Lib.hid ((HB2.out.trans (hb3.mono HB2.out.size)).trans (b4.mono (Nat.le_trans HB2.out.size hb3.size)))
  clear hb3 b4
  go_upto_region 3 with (refine wpList_newrow (by rfl) 287 (.tmp 4) (.tmp 11) (by rfl) (by rfl) (by rfl) (by rw [HSZ.out]; exact info64) (by rw [HSZ.out, HZT.out]) (u32s_one ks) ?_)
  generalize (w3.alloc (.cells (u32s ks) 287)) = w4 at *
  clear hz64
  go_wp2_with (go_at_call 176; refine (HST.out w4).mono ?_)
  first
    | rintro e w5 rfl hb5
    | rintro e w5 ⟨rfl, hb5⟩
  have b6 := below_one w5 (.cells (u32s (stL V0)) 273)
  have HR6 := Lib.hid (below_heap b6 (below_heap hb5 HR4.out))
  have HBY6 := Lib.hid ((HBY4.out.below hb5).below b6)
  have HT6 := Lib.hid (below_heap b6 (below_heap hb5 HT4.out))
  have HV6 := Lib.hid (heap_one w5 (.cells (u32s (stL V0)) 273))
  have HB6 := Lib.hid ((HB4.out.trans (hb5.mono HB4.out.size)).trans (b6.mono (Nat.le_trans HB4.out.size hb5.size)))
  have HLW := Lib.hid (show w.heap.size < w5.heap.size from lt_of_heap (below_heap hb5 HR4.out))
  have HLT := Lib.hid (show w3.heap.size < w5.heap.size from lt_of_heap (below_heap hb5 HT4.out))
  obtain ⟨gq, cq, hvq, hq1, hq2, hq3, hq4, _⟩ := (HBY4.out.below hb5)
  injection hvq with hv1 hv2 hv3
  injection hv1 with hv1
  injection hv1 with hv1
  subst hv1 hv3
  have HLP := Lib.hid hq2
  have HRG := Lib.hid (range_below b6 hq4)
  have hcap : 64 * N ≤ cap := by rw [hv2]; exact hq3
  clear hb5 b6 hq1 hq2 hq3 hq4 hv2
  go_upto_region 4 with (refine wpList_newrow (by rfl) 273 (.tmp 5) (.tmp 12) (by rfl) (by rfl) (by rfl) (by rw [HS8.out]; exact info8) (by rw [HS8.out, HZ8.out]) (u32s_one (stL V0)) ?_)
  generalize (w5.alloc (.cells (u32s (stL V0)) 273)) = w6 at *
  generalize hg5 : w5.heap.size = g5 at *
  generalize hg4 : w3.heap.size = g4 at *
  clear hg5 hg4 hz8a hz32
  go_wp2_with fail
  go_loopw [6] (fun vi wr => ∃ j : Nat, j ≤ N ∧ vi = .int .i64 (64 * (j : Int)) ∧ wr.heap[g5]? = some (.cells (u32s (stL (V0.blocks P j))) 273) ∧ Below g5 w6 wr) (fun vi _ => 64 * N + 1 - (intOf vi).toNat)
  case atStart => exact ⟨0, Nat.zero_le _, rfl, HV6.out, Below.refl _ _⟩
  case round =>
    obtain ⟨j, hj, rfl, hV, hbel⟩ := hrel
    rename World => wA
    have hsz : g5 < wA.heap.size := lt_of_heap hV
    by_cases hjN : j < N
    · have hblk := blocks_succ V0 P j
      have hok := HOK0.out.blocks P j
      generalize V0.blocks P j = V at *
      obtain ⟨l, hlb⟩ : ∃ l, (P.drop (64 * j)).take 64 = l := ⟨_, rfl⟩
      rw [hlb] at hblk
      have hll : l.length = 64 := by
        rw [← hlb, List.length_take, List.length_drop, HPN.out]
        omega
      have hrg : wA.rangeAt gp (64 * j) (Lib.byteCells l) := by
        rw [← hlb]
        have h := range_part (fun q v hq => below_cell' hbel HLP.out (HRG.out q v hq)) (64 * j) 64
        rwa [Nat.zero_add] at h
      have HBLK := Lib.hid hblk
      have HLL := Lib.hid hll
      have HRA := Lib.hid hrg
      have HOK := Lib.hid hok
      have HS := Lib.hid (stL_size V)
      have HSB := Lib.hid (stL_size (V.block l))
      have HV := Lib.hid hV
      have HBE := Lib.hid hbel
      have HTA := Lib.hid ((hbel.block g4 HLT.out).trans HT6.out)
      have q0 : (0 : Int) ≤ 64 * (j : Int) := by omega
      have q1 : 64 * (j : Int) ≤ 64 * (j : Int) + 64 := by omega
      have q2 : 64 * (j : Int) + 64 ≤ (cap : Int) := by omega
      have q3 : (64 * (j : Int)).toNat = 64 * j := by omega
      have q4 : (64 * (j : Int) + 64).toNat = 64 * j + 64 := by omega
      have q5 : 64 * j + 64 - 64 * j = 64 := by omega
      have q6 : ¬ cap - 64 * j = 0 := by omega
      have q7 : 64 * (j : Int) < 64 * (N : Int) := by omega
      have q8 : IntKind.i64.wrap (64 * (j : Int) + 64) = 64 * (j : Int) + 64 := IntWalk.i64_in _ (by omega)
      have q9 : 64 * (j : Int) + 64 ≤ 35184372089032 := by omega
      clear hblk hll hrg hok hV hbel hlb
      go_wp2_with fail
      refine wp_region_kept_tail 8 (by kernel_rfl) (by kernel_rfl) ?_
      simp only [List.take_succ_cons, List.take_zero, List.drop_succ_cons, List.drop_zero]
      refine wpQuiet_rowLoad (by rfl) 273 (.tmp 5) (by rfl) g5 (by rfl) 273 (u32s (stL V)) (0, 0) HV.out Tryz.underlying273 (by rw [HS.out]; exact info8) ?_
      simp only [Act.put, List.setIfInBounds_toArray, List.set_cons_zero, List.set_cons_succ]
      iterate 5 go_big_quiet_step (fail)
      refine wpQuiet_rowLoad (by rfl) 287 (.tmp 4) (by rfl) g4 (by rfl) 287 (u32s ks) (0, 0) HTA.out Tryz.underlying287 (by rw [HSZ.out]; exact info64) ?_
      simp only [Act.put, List.setIfInBounds_toArray, List.set_cons_zero, List.set_cons_succ]
      go_big_quiet_step ((go_at_call 177; rename Kept _ => x; exact Kept.call (rblock_any V l ks gp (64 * j) _ x.w HOK.out HLL.out HKS.out.symm (range_below x.below HRA.out))))
      refine wpQuiet_nil ?_
      intro x
      have HVX := Lib.hid (x.heap_old HV.out)
      have HBX := Lib.hid (HBE.out.trans (x.below.mono (Nat.le_of_lt hsz)))
      generalize x.w = wX at *
      go_wp2_with (refine wpList_store_row (by rfl) 273 (.tmp 5) (.tmp 26) (by rfl) g5 (u32s (stL (V.block l))) (by rfl) (by rfl) 273 (u32s (stL V)) HVX.out (by rw [HSB.out]; exact info8) (by rw [HS.out, HSB.out]) (u32s_one _) ?_)
      go_roundw
      case rel =>
        refine ⟨j + 1, by omega, by go_num, ?_, below_setRow HBX.out (Nat.le_refl _) _⟩
        rw [HBLK.out]
        exact setRow_heap wX g5 _ (u32s (stL (V.block l))) 273 (0, 0) HVX.out
      case measure => simp [intOf]; omega
    · obtain rfl : j = N := by omega
      have q7 : ¬ 64 * (j : Int) < 64 * (j : Int) := by omega
      have hso := HSH.out
      have hok := HOK0.out.blocks P j
      generalize V0.blocks P j = S at *
      have HSO := Lib.hid hso
      have HOK := Lib.hid hok
      obtain ⟨zl2, hzl2, hz32⟩ := zero_bytesR
      have HB7 := Lib.hid (HB6.out.trans (hbel.mono (Nat.le_of_lt HLW.out)))
      have HR7 := Lib.hid ((hbel.block w.heap.size HLW.out).trans HR6.out)
      have HO7 := Lib.hid (show (wA.alloc (.cells (Lib.byteCells zl2).toArray 70)).heap[wA.heap.size]? = some (.cells (Lib.byteCells (outI S 0)).toArray 70) by rw [outI_zero, ← hzl2]; exact heap_one wA _)
      have b7 := below_one wA (.cells (Lib.byteCells zl2).toArray 70)
      have HV7 := Lib.hid (below_heap b7 hV)
      have HRZ := Lib.hid (below_heap b7 HR7.out)
      have HBZ := Lib.hid (HB7.out.trans (b7.mono HB7.out.size))
      have HGW := Lib.hid (lt_of_heap HR7.out)
      have hszA := hsz
      clear hso hok hV hbel hzl2 b7 hsz
      go_upto_region 9 with fail
      generalize (wA.alloc (.cells (Lib.byteCells zl2).toArray 70)) = w7 at *
      have HGL := Lib.hid hszA
      generalize hg7 : wA.heap.size = g7 at *
      clear hz32 hszA
      go_wp2_with fail
      go_loopw [8] (fun vi wx => ∃ i : Nat, i ≤ 32 ∧ vi = .int .i64 (i : Int) ∧ wx.heap[g7]? = some (.cells (Lib.byteCells (outI S i)).toArray 70) ∧ Below g7 w7 wx) (fun vi _ => 32 - (intOf vi).toNat)
      case atStart => exact ⟨0, Nat.zero_le _, rfl, HO7.out, Below.refl _ _⟩
      case round =>
        obtain ⟨i, hi, rfl, hO, hbel⟩ := hrel
        rename World => wI
        by_cases hi32 : i < 32
        · have i1 : (i : Int) < 32 := by omega
          have i0 : (0 : Int) ≤ (i : Int) := by omega
          obtain ⟨q, hq⟩ : ∃ q, i / 4 = q := ⟨_, rfl⟩
          have hq8 : q < 8 := by omega
          have hqi : (i : Int) / 4 = (q : Int) := by omega
          have hqn : (q : Int) < 8 := by omega
          have hq0 : (0 : Int) ≤ (q : Int) := by omega
          obtain ⟨x, hx⟩ : ∃ x, (stL S).getD q 0 = x := ⟨_, rfl⟩
          have hx32 : x < 4294967296 := by rw [← hx]; exact stL_lt HOK.out q
          have ck := cell_of ((hbel.block g5 HGL.out).trans HV7.out) q (u32s_get (stL S) q (x := x) (by rw [← hx]; exact stL_get S q hq8))
          have hoa := out_at S q hq8
          rw [hx] at hoa
          obtain ⟨o0, o1, o2, o3⟩ := hoa
          have lk := lt_of_cell ck
          have lo := lt_of_heap hO
          have f0 := frozen_row hO i
          obtain ⟨y0, c0⟩ := out_cell hO i (by rw [outI_len S i hi]; omega)
          have HOI := Lib.hid hO
          have HBI := Lib.hid hbel
          have HO0 := Lib.hid o0
          have HO1 := Lib.hid o1
          have HO2 := Lib.hid o2
          have HO3 := Lib.hid o3
          have HQ := Lib.hid hq
          clear hO hbel o0 o1 o2 o3 hx hq
          have h4 : i % 4 = 0 ∨ i % 4 = 1 ∨ i % 4 = 2 ∨ i % 4 = 3 := by omega
          rcases h4 with h4 | h4 | h4 | h4
          · have hm : (i : Int) % 4 = 0 := by omega
            have HIQ := Lib.hid (show i = 4 * q by have := HQ.out; omega)
            have HVL := Lib.hid (show (x : Int) / 16777216 = ((UInt8.ofNat (x / 16777216)).toNat : Int) by rw [ofNat_cell _ (by omega)]; omega)
            clear h4
            go_wp2_with fail
            go_roundw
            case rel =>
              have h := set_heapS (i := i) (u := .int .u8 ((x : Int) / 16777216)) HOI.out
              rw [HVL.out, set_bytes, outI_step S i _ hi32 (by rw [HIQ.out]; exact HO0.out)] at h
              refine ⟨i + 1, by omega, by go_num, ?_, HBI.out.setCell (p := ⟨g7, i, none⟩) (Nat.le_refl _) _⟩
              first
                | exact h
                | (rw [← HVL.out] at h; exact h)
            case measure => simp [intOf]; omega
          · have hm : (i : Int) % 4 = 1 := by omega
            have HIQ := Lib.hid (show i = 4 * q + 1 by have := HQ.out; omega)
            have HVL := Lib.hid (show (x : Int) / 65536 % 256 = ((UInt8.ofNat (x / 65536 % 256)).toNat : Int) by rw [ofNat_cell _ (by omega)]; omega)
            clear h4
            go_wp2_with fail
            go_roundw
            case rel =>
              have h := set_heapS (i := i) (u := .int .u8 ((x : Int) / 65536 % 256)) HOI.out
              rw [HVL.out, set_bytes, outI_step S i _ hi32 (by rw [HIQ.out]; exact HO1.out)] at h
              refine ⟨i + 1, by omega, by go_num, ?_, HBI.out.setCell (p := ⟨g7, i, none⟩) (Nat.le_refl _) _⟩
              first
                | exact h
                | (rw [← HVL.out] at h; exact h)
            case measure => simp [intOf]; omega
          · have hm : (i : Int) % 4 = 2 := by omega
            have HIQ := Lib.hid (show i = 4 * q + 2 by have := HQ.out; omega)
            have HVL := Lib.hid (show (x : Int) / 256 % 256 = ((UInt8.ofNat (x / 256 % 256)).toNat : Int) by rw [ofNat_cell _ (by omega)]; omega)
            clear h4
            go_wp2_with fail
            go_roundw
            case rel =>
              have h := set_heapS (i := i) (u := .int .u8 ((x : Int) / 256 % 256)) HOI.out
              rw [HVL.out, set_bytes, outI_step S i _ hi32 (by rw [HIQ.out]; exact HO2.out)] at h
              refine ⟨i + 1, by omega, by go_num, ?_, HBI.out.setCell (p := ⟨g7, i, none⟩) (Nat.le_refl _) _⟩
              first
                | exact h
                | (rw [← HVL.out] at h; exact h)
            case measure => simp [intOf]; omega
          · have hm : (i : Int) % 4 = 3 := by omega
            have HIQ := Lib.hid (show i = 4 * q + 3 by have := HQ.out; omega)
            have HVL := Lib.hid (show (x : Int) % 256 = ((UInt8.ofNat (x % 256)).toNat : Int) by rw [ofNat_cell _ (by omega)]; omega)
            clear h4
            go_wp2_with fail
            go_roundw
            case rel =>
              have h := set_heapS (i := i) (u := .int .u8 ((x : Int) % 256)) HOI.out
              rw [HVL.out, set_bytes, outI_step S i _ hi32 (by rw [HIQ.out]; exact HO3.out)] at h
              refine ⟨i + 1, by omega, by go_num, ?_, HBI.out.setCell (p := ⟨g7, i, none⟩) (Nat.le_refl _) _⟩
              first
                | exact h
                | (rw [← HVL.out] at h; exact h)
            case measure => simp [intOf]; omega
        · obtain rfl : i = 32 := by omega
          have i1 : ¬ ((32 : Nat) : Int) < 32 := by decide
          rw [outI_end, HSO.out] at hO
          have HOI := Lib.hid hO
          have HRX := Lib.hid ((hbel.block w.heap.size HGW.out).trans HRZ.out)
          have HBX := Lib.hid (HBZ.out.trans (hbel.mono (Nat.le_of_lt HGW.out)))
          have HRS := Lib.hid (show (Lib.byteCells R).toArray.size = 32 by rw [List.size_toArray, Lib.byteCells_length, HRL.out])
          have HRE := Lib.hid (setRow_heap wI w.heap.size _ (Lib.byteCells R).toArray 70 (0, 0) HRX.out)
          have HBR := Lib.hid (below_setRow HBX.out (Nat.le_refl _) (Lib.byteCells R).toArray)
          clear hO hbel
          go_wp2_with (first | (refine wpList_load_row (by rfl) 70 (.tmp 7) (by rfl) g7 (by rfl) 70 (Lib.byteCells R).toArray (0, 0) _ HOI.out Tryz.underlying70 rfl (by rw [HRS.out]; exact hashInfo) ?_) | (refine wpList_store_row (by rfl) 70 (.tmp 2) (.tmp 43) (by rfl) w.heap.size (Lib.byteCells R).toArray (by rfl) (by rfl) 70 (Lib.byteCells zl).toArray HRX.out (by rw [HRS.out]; exact hashInfo) (by rw [HRS.out, HZL.out]) (byteCells_one R) ?_))
          exact bodyPost_ret (results_row0 rfl _ _ w.heap.size 70 _ (0, 0) _ rfl HRE.out Tryz.underlying70 rfl (by rw [HRS.out]; exact hashInfo)) rfl ⟨rfl, HBR.out⟩
end Go.Proofs.YtlahdjdbbfjadaaGreatDoor

namespace Go.Proofs.YtlahdjdbbfjadaaGreatDoor
open Go.RowKit

theorem range_new2 (w : World) (l : List UInt8) : (w.alloc (.cells (Lib.byteCells l).toArray 70)).rangeAt w.heap.size 0 (Lib.byteCells l) := fun j v hv => by
  rw [Nat.zero_add]
  exact cell_of (heap_one w _) j (by simpa using hv)
set_option maxHeartbeats 4000000 in
set_option maxRecDepth 100000 in
theorem rbytes_any (a : List UInt8) (ha : a.length = 32) (w : World) :
    Calls Tryz.prog 94 #[.agg (Lib.byteCells a).toArray] w fun e w' => e = .returned (.string ⟨a.toArray⟩) ∧ Below w.heap.size w w' := by
  obtain ⟨i0, hi, hz0, hz1, hz2⟩ := info_parts Tryz.infoByte
  have HA := Lib.hid ha
  have hO := heap_one w (.cells (Lib.byteCells a).toArray 70)
  have hB := below_one w (.cells (Lib.byteCells a).toArray 70)
  clear ha
  go_enter Tryz.func94, Tryz.ntmps94
  go_upto_region 1 with fail
  generalize (w.alloc (.cells (Lib.byteCells a).toArray 70)) = w1 at *
  have HO := Lib.hid hO
  have HB := Lib.hid hB
  clear hO hB
  have HL := Lib.hid (show w.heap.size < w1.heap.size from lt_of_heap HO.out)
  go_wp2_with fail
  go_loopw [3, 4] (fun v vi wr => ∃ i : Nat, i ≤ 32 ∧ vi = .int .i64 (i : Int) ∧ wr.ownsRow w1.heap.size 5 1 v i (Lib.byteCells (a.take i)) ∧ Below w1.heap.size w1 wr) (fun _ vi _ => 32 - (intOf vi).toNat)
  case atStart => exact ⟨0, Nat.zero_le _, rfl, World.ownsRow_nil _ _ _ _, Below.refl _ _⟩
  case round =>
    obtain ⟨i, hi32, rfl, hown, hbel⟩ := hrel
    rename World => wA
    obtain ⟨ao, cp, rfl⟩ := owns_anyH hown
    by_cases hlt : i < 32
    · have i1 : (i : Int) < 32 := by omega
      have i0' : (0 : Int) ≤ (i : Int) := by omega
      obtain ⟨c, hc⟩ : ∃ c, a[i]? = some c := ⟨_, List.getElem?_eq_getElem (by have := HA.out; omega)⟩
      have ck := cell_of ((hbel.block w.heap.size HL.out).trans HO.out) i (v := .int .u8 (c.toNat : Int)) (by rw [List.getElem?_toArray]; unfold Lib.byteCells; rw [List.getElem?_map, hc]; rfl)
      have lk := lt_of_cell ck
      have HT := Lib.hid (show a.take (i + 1) = a.take i ++ [c] by rw [List.take_add_one, hc]; rfl)
      have HBE := Lib.hid hbel
      clear hbel hc
      go_wp2_with (at_builtin; refine wpList_append_own _ rfl _ _ 81 rfl w1.heap.size 5 i0 (.int .u8 0) 1 1 Tryz.underlying81 hi hz0 hz1 hz2 rfl (by decide) _ _ _ rfl (hown.alloc _) ⟨wA.heap.size, 0, none⟩ 1 1 [.int .u8 (c.toNat : Int)] rfl rfl ?c1 ?c2 ?c3 ?c4 ?c5 ?_)
      case c2 => first | rfl | (intro u hu; simp at hu; subst hu; rfl)
      case c3 => unfold maxLen; omega
      case c4 => omega
      case c5 => have := HBE.out.size; simp; omega
      intro v' W5 g2 g3 g4
      have HG := Lib.hid g2
      have HB5 := Lib.hid ((HBE.out.alloc HBE.out.size (.cells #[.int .u8 (c.toNat : Int)] 5)).grown g3 (by have := HBE.out.size; simp; omega) (fun j hj => (hown.lt j hj).1))
      clear g2 g3 g4 ck
      go_wp2_with fail
      refine ⟨⟨i + 1, hlt, by go_num, ?_, HB5.out⟩, by simp [intOf]; omega⟩
      have h := HG.out
      rw [byteCells_snoc, ← HT.out] at h
      exact h
    · obtain rfl : i = 32 := by omega
      have i1 : ¬ ((32 : Nat) : Int) < 32 := by decide
      rw [List.take_of_length_le (by rw [HA.out]; exact Nat.le_refl _)] at hown
      have hcv := conv_own (l := a) (by rw [HA.out]; exact hown)
      have HBE := Lib.hid (HB.out.trans (hbel.mono (Nat.le_of_lt HL.out)))
      clear hown hbel
      go_wp2_with fail
      go_ret
      exact ⟨rfl, HBE.out⟩
theorem toList_arr (l : List UInt8) : (⟨l.toArray⟩ : ByteArray).data.toList = l := rfl
set_option maxHeartbeats 4000000 in
set_option maxRecDepth 100000 in
theorem rnodeText_any (a b : List UInt8) (ha : a.length = 32) (hb : b.length = 32) (w : World) :
    Calls Tryz.prog 155 #[.agg (Lib.byteCells a).toArray, .agg (Lib.byteCells b).toArray] w fun e w' => (∃ s : ByteArray, e = .returned (.string s) ∧ s.data.toList = 1 :: (a ++ b)) ∧ Below w.heap.size w w' := by
  have HA := Lib.hid ha
  have HB := Lib.hid hb
  have HAS := Lib.hid (show (Lib.byteCells a).toArray.size = 32 by rw [List.size_toArray, Lib.byteCells_length, ha])
  have HBS := Lib.hid (show (Lib.byteCells b).toArray.size = 32 by rw [List.size_toArray, Lib.byteCells_length, hb])
  have h1 := range_new2 w a
  have b1 := below_one w (.cells (Lib.byteCells a).toArray 70)
  have s1 : (w.alloc (.cells (Lib.byteCells a).toArray 70)).heap.size = w.heap.size + 1 := by simp
  have q1 : ¬ 9223372036854775807 < 1 + a.length := by omega
  have q2 : ¬ 9223372036854775807 < 1 + a.length + b.length := by omega
  clear ha hb
  go_enter Tryz.func155, Tryz.ntmps155
  go_upto_region 1 with fail
  generalize w.alloc (.cells (Lib.byteCells a).toArray 70) = w1 at *
  have h2 := range_new2 w1 b
  have b2 := below_one w1 (.cells (Lib.byteCells b).toArray 70)
  rw [s1] at h2
  have HR1 := Lib.hid (range_below b2 h1)
  have HR2 := Lib.hid h2
  have HB2 := Lib.hid (b1.trans (b2.mono b1.size))
  generalize w1.alloc (.cells (Lib.byteCells b).toArray 70) = w2 at *
  clear h1 h2 b1 b2 s1
  refine wp_region_kept (by kernel_rfl) (by kernel_rfl) ?_
  refine wpQuiet_hashLoad (by rfl) (.tmp 2) (by rfl) w.heap.size 0 (by rfl) a HA.out HR1.out ?_
  simp only [Act.put, List.setIfInBounds_toArray, List.set_cons_zero, List.set_cons_succ]
  go_big_quiet_step ((go_at_call 94; rename Kept _ => x; exact Kept.call (rbytes_any a HA.out x.w)))
  go_big_quiet_step (fail)
  refine wpQuiet_hashLoad (by rfl) (.tmp 3) (by rfl) (w.heap.size + 1) 0 (by rfl) b HB.out HR2.out ?_
  simp only [Act.put, List.setIfInBounds_toArray, List.set_cons_zero, List.set_cons_succ]
  go_big_quiet_step ((go_at_call 94; rename Kept _ => x; exact Kept.call (rbytes_any b HB.out x.w)))
  go_big_quiet_step (fail)
  go_big_quiet_step (fail)
  refine wpQuiet_nil ?_
  intro x
  go_wp2_with fail
  go_ret
  exact ⟨⟨_, rfl, by simp [ByteArray.data_append]⟩, HB2.out.trans (x.below.mono HB2.out.size)⟩
set_option maxHeartbeats 4000000 in
set_option maxRecDepth 100000 in
theorem rnode_any (a b : List UInt8) (ha : a.length = 32) (hb : b.length = 32) (w : World) :
    Calls Tryz.prog 135 #[.agg (Lib.byteCells a).toArray, .agg (Lib.byteCells b).toArray] w fun e w' => e = .returned (.agg (Lib.byteCells (nodeF a b)).toArray) ∧ Below w.heap.size w w' := by
  have HA := Lib.hid ha
  have HB := Lib.hid hb
  have HAS := Lib.hid (show (Lib.byteCells a).toArray.size = 32 by rw [List.size_toArray, Lib.byteCells_length, ha])
  have HBS := Lib.hid (show (Lib.byteCells b).toArray.size = 32 by rw [List.size_toArray, Lib.byteCells_length, hb])
  obtain ⟨T, hT⟩ : ∃ T, nodeF a b = T := ⟨_, rfl⟩
  have HTL := Lib.hid (show T.length = 32 by rw [← hT]; exact nodeF_len a b)
  have HTS := Lib.hid (show (Lib.byteCells T).toArray.size = 32 by rw [List.size_toArray, Lib.byteCells_length, ← hT, nodeF_len])
  have HNT := Lib.hid fun W => rnodeText_any a b ha hb W
  have HSM := Lib.hid fun (s : ByteArray) (hs : s.data.toList = 1 :: (a ++ b)) W => (by
    have hl : s.size = 65 := by
      have e : s.data.toList.length = s.size := Array.length_toList
      rw [← e, hs, List.length_cons, List.length_append, ha, hb]
    have h := rsum_any s W (by omega)
    rw [hs, show shaL (1 :: (a ++ b)) = T from hT] at h
    exact h : Calls Tryz.prog 154 #[.string s] W fun e w' => e = .returned (.agg (Lib.byteCells T).toArray) ∧ Below W.heap.size W w')
  rw [hT]
  obtain ⟨zl, hzl, hz32⟩ := zero_bytesR
  have HZL := Lib.hid (show (Lib.byteCells zl).toArray.size = 32 by rw [List.size_toArray, Lib.byteCells_length, hzl]; rfl)
  obtain ⟨hA, hB, hC, hsz, hb3⟩ := three_blocks w (Lib.byteCells a).toArray (Lib.byteCells b).toArray (Lib.byteCells zl).toArray 70 70 70
  clear ha hb hT hzl
  go_enter Tryz.func135, Tryz.ntmps135
  go_upto_region 1 with fail
  generalize ((w.alloc (.cells (Lib.byteCells a).toArray 70)).alloc (.cells (Lib.byteCells b).toArray 70)).alloc (.cells (Lib.byteCells zl).toArray 70) = w3 at *
  have HRA := Lib.hid hA
  have HRB := Lib.hid hB
  have HRC := Lib.hid hC
  have HB3 := Lib.hid hb3
  have HSZ := Lib.hid hsz
  clear hA hB hC hsz hb3 hz32
  go_wp2_with (first | (refine wpList_load_row (by rfl) 70 (.tmp 2) (by rfl) w.heap.size (by rfl) 70 (Lib.byteCells a).toArray (0, 0) _ HRA.out Tryz.underlying70 rfl (by rw [HAS.out]; exact hashInfo) ?_) | (refine wpList_load_row (by rfl) 70 (.tmp 3) (by rfl) (w.heap.size + 1) (by rfl) 70 (Lib.byteCells b).toArray (0, 0) _ HRB.out Tryz.underlying70 rfl (by rw [HBS.out]; exact hashInfo) ?_) | (go_at_call 155; refine (HNT.out w3).mono ?_))
  first
    | rintro e w4 s rfl hs hb4
    | rintro e w4 ⟨⟨s, rfl, hs⟩, hb4⟩
    | rintro e w4 ⟨s, rfl, hs⟩ hb4
  have HS := Lib.hid hs
  have HB4 := Lib.hid (HB3.out.trans (hb4.mono HB3.out.size))
  have HRC4 := Lib.hid (below_heap hb4 HRC.out)
  clear hs hb4
  go_wp2_with (go_at_call 154; refine (HSM.out s HS.out w4).mono ?_)
  first
    | rintro e w5 rfl hb5
    | rintro e w5 ⟨rfl, hb5⟩
  have HB5 := Lib.hid (HB4.out.trans (hb5.mono HB4.out.size))
  have HRC5 := Lib.hid (below_heap hb5 HRC4.out)
  have HRE := Lib.hid (setRow_heap w5 (w.heap.size + 1 + 1) _ (Lib.byteCells T).toArray 70 (0, 0) HRC5.out)
  have HBR := Lib.hid (below_setRow HB5.out (show w.heap.size ≤ w.heap.size + 1 + 1 by omega) (Lib.byteCells T).toArray)
  clear hb5
  go_wp2_with (refine wpList_store_row (by rfl) 70 (.tmp 4) (.tmp 8) (by rfl) (w.heap.size + 1 + 1) (Lib.byteCells T).toArray (by rfl) (by rfl) 70 (Lib.byteCells zl).toArray HRC5.out (by rw [HTS.out]; exact hashInfo) (by rw [HTS.out, HZL.out]) (byteCells_one T) ?_)
  exact bodyPost_ret (results_row0 rfl _ _ (w.heap.size + 1 + 1) 70 _ (0, 0) _ rfl HRE.out Tryz.underlying70 rfl (by rw [HTS.out]; exact hashInfo)) rfl ⟨rfl, HBR.out⟩
end Go.Proofs.YtlahdjdbbfjadaaGreatDoor

namespace Go.Proofs.YtlahdjdbbfjadaaGreatDoor
open Go.RowKit

set_option maxHeartbeats 4000000 in
set_option maxRecDepth 100000 in
theorem rtree_zero (l : List UInt8) (g o cap : Nat) (w : World) (hl : l.length = 32) (hr : w.rangeAt g o (Lib.byteCells l)) (hgw : g < w.heap.size) :
    Calls Tryz.prog 89 #[.slice (some ⟨g, o, none⟩) 1 cap] w fun e w' => e = .returned (.agg (Lib.byteCells l).toArray) ∧ Below w.heap.size w w' := by
  have HL := Lib.hid hl
  have HR := Lib.hid hr
  obtain ⟨zl, hzl, hz32⟩ := zero_bytesR
  have HZL := Lib.hid (show (Lib.byteCells zl).toArray.size = 32 by rw [List.size_toArray, Lib.byteCells_length, hzl]; rfl)
  have HLS := Lib.hid (show (Lib.byteCells l).toArray.size = 32 by rw [List.size_toArray, Lib.byteCells_length, hl])
  have hO := heap_one w (.cells (Lib.byteCells zl).toArray 70)
  have hB := below_one w (.cells (Lib.byteCells zl).toArray 70)
  clear hl hr hzl
  go_enter Tryz.func89, Tryz.ntmps89
  go_upto_region 1 with fail
  generalize (w.alloc (.cells (Lib.byteCells zl).toArray 70)) = w1 at *
  have HO := Lib.hid hO
  have HB := Lib.hid hB
  have HR1 := Lib.hid (range_below hB HR.out)
  have HRE := Lib.hid (setRow_heap w1 w.heap.size _ (Lib.byteCells l).toArray 70 (0, 0) hO)
  have HBR := Lib.hid (below_setRow hB (Nat.le_refl _) (Lib.byteCells l).toArray)
  have hg1 : g < w1.heap.size := Nat.lt_of_lt_of_le hgw hB.size
  clear hO hB hz32
  go_wp2_with (first | (refine wpList_hashLoad (by rfl) (.tmp 8) (by rfl) g o (by rfl) l HL.out HR1.out ?_) | (refine wpList_store_row (by rfl) 70 (.tmp 2) (.tmp 9) (by rfl) w.heap.size (Lib.byteCells l).toArray (by rfl) (by rfl) 70 (Lib.byteCells zl).toArray HO.out (by rw [HLS.out]; exact hashInfo) (by rw [HLS.out, HZL.out]) (byteCells_one l) ?_))
  exact bodyPost_ret (results_row0 rfl _ _ w.heap.size 70 _ (0, 0) _ rfl HRE.out Tryz.underlying70 rfl (by rw [HLS.out]; exact hashInfo)) rfl ⟨rfl, HBR.out⟩
set_option maxHeartbeats 4000000 in
set_option maxRecDepth 100000 in
theorem rtree_step (c m : Nat) (A B T : List UInt8) (g o cap : Nat) (w : World) (hc : c = 2 * m) (hm1 : 1 ≤ m) (hm : m ≤ 128) (hcap : c ≤ cap) (hgw : g < w.heap.size) (hA : A.length = 32) (hB : B.length = 32) (hT : nodeF A B = T)
    (h1 : ∀ W, Below w.heap.size w W → Calls Tryz.prog 89 #[.slice (some ⟨g, o, none⟩) m cap] W fun e w' => e = .returned (.agg (Lib.byteCells A).toArray) ∧ Below W.heap.size W w')
    (h2 : ∀ W, Below w.heap.size w W → Calls Tryz.prog 89 #[.slice (some ⟨g, o + m * 32, none⟩) m (cap - m)] W fun e w' => e = .returned (.agg (Lib.byteCells B).toArray) ∧ Below W.heap.size W w') :
    Calls Tryz.prog 89 #[.slice (some ⟨g, o, none⟩) c cap] w fun e w' => e = .returned (.agg (Lib.byteCells T).toArray) ∧ Below w.heap.size w w' := by
  have HA := Lib.hid hA
  have HB := Lib.hid hB
  have H1 := Lib.hid h1
  have H2 := Lib.hid h2
  have HND := Lib.hid fun W => (by
    have h := rnode_any A B hA hB W
    rw [hT] at h
    exact h : Calls Tryz.prog 135 #[.agg (Lib.byteCells A).toArray, .agg (Lib.byteCells B).toArray] W fun e w' => e = .returned (.agg (Lib.byteCells T).toArray) ∧ Below W.heap.size W w')
  obtain ⟨zl, hzl, hz32⟩ := zero_bytesR
  have HZL := Lib.hid (show (Lib.byteCells zl).toArray.size = 32 by rw [List.size_toArray, Lib.byteCells_length, hzl]; rfl)
  have HTS := Lib.hid (show (Lib.byteCells T).toArray.size = 32 by rw [List.size_toArray, Lib.byteCells_length, ← hT, nodeF_len])
  have hO := heap_one w (.cells (Lib.byteCells zl).toArray 70)
  have hBo := below_one w (.cells (Lib.byteCells zl).toArray 70)
  have f1 : ((c : Int) == 1) = false := by
    rw [beq_eq_false_iff_ne]
    omega
  have f2 : (c : Int) / 2 = (m : Int) := by omega
  have f3 : (0 : Int) ≤ (m : Int) := by omega
  have f4 : (m : Int) ≤ (cap : Int) := by omega
  have f5 : (m : Int) ≤ (c : Int) := by omega
  have f6 : ¬ cap - m = 0 := by omega
  have f7 : c - m = m := by omega
  have f8 : (c : Int) ≤ 256 := by omega
  have f9 : (c : Int) ≤ (cap : Int) := by omega
  clear hA hB h1 h2 hT hzl hc hm
  go_enter Tryz.func89, Tryz.ntmps89
  go_upto_region 1 with fail
  generalize (w.alloc (.cells (Lib.byteCells zl).toArray 70)) = w1 at *
  have HO := Lib.hid hO
  have HBO := Lib.hid hBo
  have hg1 : g < w1.heap.size := Nat.lt_of_lt_of_le hgw hBo.size
  clear hO hBo hz32
  go_wp2_with fail
  refine wp_region_kept_tail 9 (by kernel_rfl) (by kernel_rfl) ?_
  simp only [List.take_succ_cons, List.take_zero, List.drop_succ_cons, List.drop_zero]
  iterate 3 go_big_quiet_step (fail)
  go_big_quiet_step ((go_at_call 89; rename Kept _ => x; exact Kept.call (H1.out x.w (HBO.out.trans (x.below.mono HBO.out.size)))))
  iterate 3 go_big_quiet_step (fail)
  go_big_quiet_step ((go_at_call 89; rename Kept _ => x; exact Kept.call (H2.out x.w (HBO.out.trans (x.below.mono HBO.out.size)))))
  go_big_quiet_step ((go_at_call 135; rename Kept _ => x; exact Kept.call (HND.out x.w)))
  refine wpQuiet_nil ?_
  intro x
  have HOX := Lib.hid (x.heap_old HO.out)
  have HBX := Lib.hid (HBO.out.trans (x.below.mono HBO.out.size))
  generalize x.w = wX at *
  have HRE := Lib.hid (setRow_heap wX w.heap.size _ (Lib.byteCells T).toArray 70 (0, 0) HOX.out)
  have HBR := Lib.hid (below_setRow HBX.out (Nat.le_refl _) (Lib.byteCells T).toArray)
  go_wp2_with (refine wpList_store_row (by rfl) 70 (.tmp 2) (.tmp 21) (by rfl) w.heap.size (Lib.byteCells T).toArray (by rfl) (by rfl) 70 (Lib.byteCells zl).toArray HOX.out (by rw [HTS.out]; exact hashInfo) (by rw [HTS.out, HZL.out]) (byteCells_one T) ?_)
  exact bodyPost_ret (results_row0 rfl _ _ w.heap.size 70 _ (0, 0) _ rfl HRE.out Tryz.underlying70 rfl (by rw [HTS.out]; exact hashInfo)) rfl ⟨rfl, HBR.out⟩
theorem rtree_any : ∀ (k : Nat), k ≤ 8 → ∀ (l : List UInt8) (g o cap : Nat) (w : World), l.length = 32 * 2 ^ k → w.rangeAt g o (Lib.byteCells l) → g < w.heap.size → 2 ^ k ≤ cap →
    Calls Tryz.prog 89 #[.slice (some ⟨g, o, none⟩) (2 ^ k) cap] w fun e w' => e = .returned (.agg (Lib.byteCells (treeL nodeF k l)).toArray) ∧ Below w.heap.size w w'
  | 0, _, l, g, o, cap, w, hl, hr, hgw, _ => by
    have e : treeL nodeF 0 l = l := by
      unfold treeL hashAt
      rw [Nat.mul_zero, List.drop_zero, List.take_of_length_le (by omega)]
    rw [e]
    exact rtree_zero l g o cap w hl hr hgw
  | k + 1, hk, l, g, o, cap, w, hl, hr, hgw, hcap => by
    have h2 : 2 ^ (k + 1) = 2 * 2 ^ k := by rw [Nat.pow_succ]; omega
    have h1 : 1 ≤ 2 ^ k := Nat.one_le_two_pow
    have h128 : 2 ^ k ≤ 128 := Nat.le_trans (Nat.pow_le_pow_right (by omega) (show k ≤ 7 by omega)) (by decide)
    refine rtree_step (2 ^ (k + 1)) (2 ^ k) (treeL nodeF k (l.take (32 * 2 ^ k))) (treeL nodeF k (l.drop (32 * 2 ^ k))) _ g o cap w h2 h1 h128 hcap hgw (treeL_len nodeF_len k _ ?_) (treeL_len nodeF_len k _ ?_) rfl (fun W hW => ?_) (fun W hW => ?_)
    · rw [List.length_take]; omega
    · rw [List.length_drop]; omega
    · refine rtree_any k (by omega) _ g o cap W (by rw [List.length_take]; omega) ?_ (Nat.lt_of_lt_of_le hgw hW.size) (by omega)
      have h := range_part (range_below hW hr) 0 (32 * 2 ^ k)
      rwa [List.drop_zero] at h
    · refine rtree_any k (by omega) _ g (o + 2 ^ k * 32) (cap - 2 ^ k) W (by rw [List.length_drop]; omega) ?_ (Nat.lt_of_lt_of_le hgw hW.size) (by omega)
      have h := range_part (range_below hW hr) (32 * 2 ^ k) (32 * 2 ^ k)
      rw [List.take_of_length_le (by rw [List.length_drop]; omega)] at h
      rwa [Nat.mul_comm (2 ^ k) 32]
end Go.Proofs.YtlahdjdbbfjadaaGreatDoor
