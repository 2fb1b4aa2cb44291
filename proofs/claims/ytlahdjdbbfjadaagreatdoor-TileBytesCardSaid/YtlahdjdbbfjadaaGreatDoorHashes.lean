/-
  Hashes as bytes: (*strings.Builder).Write, tile.Encode, cartularylaw01.SameHashes by their contracts.
-/
import Derived.Test.YtlahdjdbbfjadaaGreatDoorTileRow
import Derived.Test.YtlahdjdbbfjadaaGreatDoorTileMay
import Derived.Test.YtlahdjdbbfjadaaGreatDoorConv
import Derived.Deep.MidRow
import Derived.Deep.RegionHeld
import Derived.StillTailTactics
import Derived.BigQuiet
namespace Go.Proofs.YtlahdjdbbfjadaaGreatDoor
open Go.RowKit

/-- A slice of so many hashes, whose bytes are those, one hash behind the other. -/
def HashIn (W : World) (v : Value) (n : Nat) (l : List UInt8) : Prop :=
  l.length = 32 * n ∧ ∃ ao cap, v = .slice ao n cap ∧ (0 < n → ∃ g o, ao = some ⟨g, o, none⟩ ∧ W.rangeAt g o (Lib.byteCells l))
theorem range_below {w w' : World} (hb : Below w.heap.size w w') {g o : Nat} {cs : List Value} (h : w.rangeAt g o cs) : w'.rangeAt g o cs := fun j v hv => below_cell hb (h j v hv)
theorem HashIn.below {w w' : World} {v : Value} {n : Nat} {l : List UInt8} (h : HashIn w v n l) (hb : Below w.heap.size w w') : HashIn w' v n l := by
  obtain ⟨h1, ao, cap, rfl, h2⟩ := h
  refine ⟨h1, ao, cap, rfl, fun hn => ?_⟩
  obtain ⟨g, o, rfl, hr⟩ := h2 hn
  exact ⟨g, o, rfl, range_below hb hr⟩
/-- The bytes of hash number i. -/
def hashAt (l : List UInt8) (i : Nat) : List UInt8 := (l.drop (32 * i)).take 32
theorem hashAt_len {l : List UInt8} {n i : Nat} (h : l.length = 32 * n) (hi : i < n) : (hashAt l i).length = 32 := by
  unfold hashAt
  rw [List.length_take, List.length_drop, h]
  omega
theorem take_hash (l : List UInt8) (i : Nat) : l.take (32 * (i + 1)) = l.take (32 * i) ++ hashAt l i := by
  rw [Nat.mul_add, Nat.mul_one, List.take_add]
  rfl
theorem range_at {W : World} {g o : Nat} {l : List UInt8} (h : W.rangeAt g o (Lib.byteCells l)) (i : Nat) : W.rangeAt g (o + i * 32) (Lib.byteCells (hashAt l i)) := by
  intro j v hv
  have e : (Lib.byteCells l)[i * 32 + j]? = some v := by
    unfold Lib.byteCells hashAt at *
    rw [List.getElem?_map, List.getElem?_take] at hv
    rw [List.getElem?_map]
    split at hv
    · rw [List.getElem?_drop] at hv
      rw [Nat.mul_comm i 32]
      exact hv
    · simp at hv
  have := h _ _ e
  rwa [← Nat.add_assoc] at this
theorem byteCells_one (l : List UInt8) : (Lib.byteCells l).toArray.all (·.oneCell') = true := by
  rw [List.all_toArray, List.all_eq_true]
  intro x hx
  obtain ⟨b, _, rfl⟩ := List.mem_map.1 hx
  rfl
theorem hashInfo : (Tryz.prog.info? 70).map (·.size) = some 32 := by kernel_rfl
theorem hashDesc : ∃ e, Tryz.prog.underlying 70 = some (.array 32 e) ∧ e = 5 := ⟨_, by kernel_rfl, rfl⟩

theorem stored1 (w2 : World) (cs : Array Value) (t : TypeId) (old : Array Value) : (w2.alloc (.cells old t)).setRow w2.heap.size cs = w2.alloc (.cells cs t) := by
  have h : (w2.heap.push (.cells old t))[w2.heap.size]? = some (.cells old t) := by simp
  unfold World.setRow World.alloc
  simp only
  congr 1
  refine Array.ext_getElem? fun j => ?_
  rw [Array.getElem?_modify]
  by_cases e : w2.heap.size = j
  · subst e
    simp
  · rw [if_neg e, Array.getElem?_push, Array.getElem?_push, if_neg (fun h => e h.symm), if_neg (fun h => e h.symm)]
/-- A hash goes into a new variable. -/
theorem wpList_hash {ops : Array Oper} {rest : List Oper} {o : Oper} {a : Act} {w2 : World} {Q : Exit → Act → World → Prop} (hgd : o.guard = none) (x y : Operand) (ho : o.op = .store 70 x y)
    {cs old : Array Value} (hx : a.eval x = .pointer (some ⟨w2.heap.size, 0, none⟩)) (hy : a.eval y = .agg cs) (hcs : cs.size = 32) (hold : old.size = 32) (hone : cs.all (·.oneCell') = true)
    (h : wpList Tryz.prog ops Q rest (a.put o.dst undef) (w2.alloc (.cells cs 70))) : wpList Tryz.prog ops Q (o :: rest) a (w2.alloc (.cells old 70)) := by
  refine wpList_store_row hgd 70 x y ho w2.heap.size cs hx hy 70 old (heap_alloc_new w2 _) (by rw [hcs]; exact hashInfo) (by rw [hcs, hold]) hone ?_
  rw [stored1]
  exact h

theorem copyCheck_only (B b : Nat) (bs : List Value) (w : World) (h : Lib.IsBuilder 83 5 B b bs w) :
    Calls Tryz.prog 93 #[.pointer (some ⟨b, 0, none⟩)] w fun e w' => e = .returned (.tuple #[]) ∧ (Lib.BuilderAt 83 5 B b (.pointer (some ⟨b, 0, none⟩)) bs w' ∧ Below B w w') ∧ ∀ a : Addr, b ≠ a.block → w'.cell? a = w.cell? a := by
  rcases h with h | h
  · refine (copyCheck_fresh b w h.cell0 h.shape h.frozen0).mono ?_
    rintro e w' ⟨rfl, rfl⟩
    exact ⟨rfl, ⟨h.used _, (Below.refl B w).setCell (p := ⟨b, 0, none⟩) h.1 _⟩, fun a ha => World.cell?_setCell_far _ _ _ _ ha⟩
  · refine (copyCheck_used b w h.cell0).mono ?_
    rintro e w' ⟨rfl, rfl⟩
    exact ⟨rfl, ⟨h, Below.refl B _⟩, fun _ _ => rfl⟩

set_option maxHeartbeats 2000000 in
set_option maxRecDepth 100000 in
/-- Write: the bytes go behind what is held. -/
theorem write_any (B b : Nat) (bs : List Value) (g o c : Nat) (l : List UInt8) (w : World) (h : Lib.IsBuilder 83 5 B b bs w) (hr : w.rangeAt g o (Lib.byteCells l)) (hgb : b ≠ g) (hlen : bs.length + l.length ≤ 140737488355328) (hBw : B ≤ w.heap.size) :
    Calls Tryz.prog 28 #[.pointer (some ⟨b, 0, none⟩), .slice (some ⟨g, o, none⟩) l.length c] w fun e w' => e = .returned (.tuple #[.int .i64 (l.length : Int), .nilIface]) ∧ (Lib.BuilderAt 83 5 B b (.pointer (some ⟨b, 0, none⟩)) (bs ++ Lib.byteCells l) w' ∧ Below B w w') := by
  obtain ⟨i0, hi, hz0, hz1, hz2⟩ := info_parts Tryz.infoByte
  go_enter Tryz.func28, Tryz.ntmps28
  go_wp2_with (go_at_call 93; refine (copyCheck_only B b bs _ h).mono ?_)
  rintro e w1 ⟨rfl, ⟨h1, hb1⟩, hk⟩
  obtain ⟨hB, v, hbk, hown, hne⟩ := h1
  have c0 : w1.cell? ⟨b, 0, none⟩ = some (.pointer (some ⟨b, 0, none⟩)) := by rw [Lib.cell_of_heap hbk]; rfl
  have c1 : w1.cell? ⟨b, 1, none⟩ = some v := by rw [Lib.cell_of_heap hbk]; rfl
  have hnews : ∀ j u, (Lib.byteCells l)[j]? = some u → w1.cell? ((⟨g, o, none⟩ : Addr).add j) = some u := fun j u hj => by
    rw [Addr.add_mid, hk _ hgb]
    exact hr j u hj
  go_wp2_with (at_builtin; refine wpList_append_own _ rfl _ _ 81 rfl B 5 i0 (.int .u8 0) 1 1 Tryz.underlying81 hi hz0 hz1 hz2 rfl (by decide) _ _ _ rfl hown ⟨g, o, none⟩ l.length c (Lib.byteCells l) rfl (by simp [Lib.byteCells_length]) hnews ?c2 ?c3 ?c4 ?c5 ?_)
  case c2 =>
    intro u hu
    obtain ⟨b, _, rfl⟩ := List.mem_map.1 hu
    rfl
  case c3 => unfold maxLen; omega
  case c4 => omega
  case c5 => have := hb1.size; omega
  intro v' w2 hown' hgrow _
  have hlt : b < w1.heap.size := lt_of_heap hbk
  have hb2 : w2.heap[b]? = some (.cells #[.pointer (some ⟨b, 0, none⟩), v] 83 (0, 0)) := by
    rw [hgrow.block b hlt (fun e => hne e.symm)]
    exact hbk
  have d0 : w2.cell? ⟨b, 0, none⟩ = some (.pointer (some ⟨b, 0, none⟩)) := by rw [Lib.cell_of_heap hb2]; rfl
  have d1 : w2.cell? ⟨b, 1, none⟩ = some v := by rw [Lib.cell_of_heap hb2]; rfl
  have f1 : w2.frozen? ⟨b, 1, none⟩ = false := Lib.frozen_of_heap hb2 1
  obtain ⟨ao, n', cap, rfl⟩ : ∃ ao n' cap, v' = .slice ao n' cap := by
    rcases hown'.2 with ⟨hv, _⟩ | ⟨g, cap, cur, hv, _⟩
    · exact ⟨_, _, _, hv⟩
    · exact ⟨_, _, _, hv⟩
  go_wp2
  go_ret2
  refine ⟨rfl, ?_, ?_⟩
  · exact Lib.BuilderAt.put (T := 83) (e := 5) hB hb2 (bs' := bs ++ Lib.byteCells l) (by simpa [Lib.byteCells_length] using hown') (by decide)
  · exact (hb1.grown hgrow (by have := hb1.size; omega) (fun k hk => (hown.lt k hk).1)).setCell (p := ⟨b, 1, none⟩) hB _

theorem isB_lt {T e : TypeId} {B b : Nat} {bs : List Value} {w : World} (h : Lib.IsBuilder T e B b bs w) : b < w.heap.size := by
  rcases h with h | h
  · obtain ⟨_, v, hb, _⟩ := h
    exact lt_of_heap hb
  · obtain ⟨_, v, hb, _⟩ := h
    exact lt_of_heap hb
theorem IsB_alloc {T e : TypeId} {B b : Nat} {bs : List Value} {w : World} (h : Lib.IsBuilder T e B b bs w) (o : Obj) : Lib.IsBuilder T e B b bs (w.alloc o) := by
  have hl := isB_lt h
  rcases h with h | h
  · obtain ⟨hB, v, hb, ho, hne⟩ := h
    exact .inl ⟨hB, v, (heap_alloc_old _ _ hl).trans hb, ho.alloc _, hne⟩
  · obtain ⟨hB, v, hb, ho, hne⟩ := h
    exact .inr ⟨hB, v, (heap_alloc_old _ _ hl).trans hb, ho.alloc _, hne⟩
theorem ret_strN {l m : List UInt8} (h : l = m) : Ending.returned (.tuple #[.string ⟨l.toArray⟩, .nilIface]) = Ending.returned (.tuple #[.string ⟨m.toArray⟩, .nilIface]) := by rw [h]
def encV (S : Nat → Addr) (n : Nat) (l : List UInt8) : Value := .tuple (if 1 ≤ n ∧ n ≤ 256 then #[.string ⟨l.toArray⟩, .nilIface] else #[.string ⟨#[]⟩, errV S 2])
set_option maxHeartbeats 2000000 in
set_option maxRecDepth 100000 in
theorem encode_any (S : Nat → Addr) (v : Value) (n : Nat) (l : List UInt8) (w : World) (hB : Base S w) (hv : HashIn w v n l) :
    Calls Tryz.prog 9 #[v] w fun e w' => e = .returned (encV S n l) ∧ Below w.heap.size w w' := by
  have g2 := hB.var 2 (by omega) (by omega)
  obtain ⟨hl, ao, cap, rfl, hr⟩ := hv
  by_cases hn : 1 ≤ n ∧ n ≤ 256
  · rw [encV, if_pos hn]
    obtain ⟨g, o, rfl, hrow⟩ := hr (by omega)
    clear hB g2 hr
    have n1 : ¬ (n : Int) < 1 := by omega
    have n2 : ¬ (256 : Int) < (n : Int) := by omega
    have hgw : g < w.heap.size := by
      obtain ⟨b, hb⟩ : ∃ b, l[0]? = some b := ⟨_, List.getElem?_eq_getElem (by omega)⟩
      exact lt_of_cell (hrow 0 _ (by unfold Lib.byteCells; rw [List.getElem?_map, hb]; rfl))
    have HRW := Lib.hid hrow
    clear hrow
    go_enter Tryz.func9, Tryz.ntmps9
    go_wp2_with fail
    go_loopw [18] (fun vi wr => ∃ i : Nat, i ≤ n ∧ vi = .int .i64 (i : Int) ∧ Lib.IsBuilder 83 5 w.heap.size w.heap.size (Lib.byteCells (l.take (32 * i))) wr ∧ Below w.heap.size w wr) (fun vi _ => n - (intOf vi).toNat)
    case atStart => exact ⟨0, Nat.zero_le _, rfl, fresh_builder w, below_one w _⟩
    case round =>
      obtain ⟨i, hin, rfl, hbd, hbel⟩ := hrel
      rename World => wA
      by_cases hi : i < n
      · have i1 : (i : Int) < (n : Int) := by omega
        have i3 : ((i : Int) * 32).toNat = i * 32 := by omega
        have hrA := range_at (range_below hbel HRW.out) i
        have hgA : g < wA.heap.size := Nat.lt_of_lt_of_le hgw hbel.size
        have h32 := hashAt_len hl hi
        have HT := Lib.hid (take_hash l i)
        generalize hashAt l i = hb at *
        have hsz : (Tryz.prog.info? 70).map (·.size) = some (Lib.byteCells hb).length := by rw [Lib.byteCells_length, h32]; exact hashInfo
        go_wp2_with (first | (refine wpList_load_mid (by rfl) 70 (.tmp 20) (by rfl) g (o + i * 32) (by rfl) (Lib.byteCells hb) _ hrA Tryz.underlying70 rfl hsz ?_) | (refine wpList_hash (by rfl) (.tmp 6) (.tmp 21) (by rfl) (by rfl) (by rfl) (by rw [List.size_toArray, Lib.byteCells_length, h32]) (by rfl) (byteCells_one hb) ?_))
        rw [← h32]
        refine (write_any w.heap.size w.heap.size (Lib.byteCells (l.take (32 * i))) wA.heap.size 0 hb.length hb _ ?_ ?_ ?_ ?_ ?_).mono ?_
        · exact IsB_alloc hbd _
        · exact fun j v hv => by rw [Nat.zero_add]; exact cell_of (heap_one wA _) j (by simpa using hv)
        · exact Nat.ne_of_lt (isB_lt hbd)
        · rw [Lib.byteCells_length, List.length_take]
          omega
        · exact Nat.le_trans hbel.size (by simp)
        rintro e w2 ⟨rfl, hb2, hl2⟩
        have hbel2 := (hbel.alloc hbel.size (.cells (Lib.byteCells hb).toArray 70)).trans hl2
        rw [show Lib.byteCells (l.take (32 * i)) ++ Lib.byteCells hb = Lib.byteCells (l.take (32 * (i + 1))) by rw [HT.out]; simp [Lib.byteCells]] at hb2
        clear hbd hbel hl2 hrA hsz
        go_wp2_with fail
        go_roundw
        case rel => exact ⟨i + 1, by omega, by go_num, .inr hb2, hbel2⟩
        case measure => simp [intOf]; omega
      · have i1 : ¬ (i : Int) < (n : Int) := by omega
        obtain rfl : i = n := by omega
        have hfin : l.take (32 * i) = l := List.take_of_length_le (by omega)
        rw [hfin] at hbd
        clear hfin
        go_wp2_with fail
        refine (Tryz.Builder_String_any _ _ _ _ hbd hbel.size).mono ?_
        rintro e w3 ⟨rfl, hl3⟩
        go_wp2_with fail
        go_ret2
        exact ⟨ret_strN (by simp), hbel.trans hl3⟩
  · rw [encV, if_neg hn]
    simp only [errG, errV] at g2 ⊢
    clear hB hr
    by_cases h1 : 1 ≤ n
    · have n1 : ¬ (n : Int) < 1 := by omega
      have n2 : (256 : Int) < (n : Int) := by omega
      clear hn h1
      go_enter Tryz.func9, Tryz.ntmps9
      go_wp2_with fail
      go_quiet (fail)
      go_wp2_with fail
      go_ret2
      exact ⟨rfl, below_drewN (Below.refl _ _) _⟩
    · have n1 : (n : Int) < 1 := by omega
      clear hn h1
      go_enter Tryz.func9, Tryz.ntmps9
      go_wp2_with fail
      go_quiet (fail)
      go_wp2_with fail
      go_ret2
      exact ⟨rfl, below_drewN (Below.refl _ _) _⟩
end Go.Proofs.YtlahdjdbbfjadaaGreatDoor
