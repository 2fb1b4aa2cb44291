/-
  cartularylaw01.SameCheckpoint by its contract.
-/
import Derived.Test.YtjmgkallgflcdaaGreatDoorCkFmt
import Derived.Deep.MidRow
import Derived.ChangeKeysEq
import Derived.Laws.StructEq
namespace Go.Proofs.YtjmgkallgflcdaaGreatDoor
open Go.RowKit

theorem u8_plain : Tryz.prog.plainKey 5 = true := by kernel_rfl
theorem u8_cells : Tryz.prog.cellsOf 5 = 1 := by kernel_rfl
theorem u8_info : (Tryz.prog.info? 5).isSome = true := by kernel_rfl
theorem h32_guard : Tryz.prog.eqGuardType Tryz.prog.depth 24 = false := by kernel_rfl
theorem h32_info : (Tryz.prog.info? 24).map (·.size) = some 32 := by kernel_rfl
theorem h32_under : ∃ e, Tryz.prog.underlying 24 = some (.array 32 e) ∧ e = 5 := ⟨_, by kernel_rfl, rfl⟩
theorem run_items (d : Nat) (a b : List UInt8) (hl : a.length = b.length) (w : World) : ∀ is : List Nat, (∀ i ∈ is, i < a.length) →
    (Op.eqItems (d + 1) 5 1 (Lib.byteCells a).toArray (Lib.byteCells b).toArray is).run Tryz.prog w = .ok (is.all fun i => a[i]? == b[i]?) w
  | [], _ => by simp [Op.eqItems]
  | i :: is, h => by
    have hi := h i (List.mem_cons_self ..)
    have ea : (Lib.byteCells a).toArray[i * 1]? = some (.int .u8 (a[i].toNat : Int)) := by simp [Lib.byteCells, hi]
    have eb : (Lib.byteCells b).toArray[i * 1]? = some (.int .u8 ((b[i]'(by omega)).toNat : Int)) := by
      have : i < b.length := by omega
      simp [Lib.byteCells, this]
    have hib : i < b.length := by omega
    simp only [Op.eqItems, Sem.run_bind, run_part_plain w u8_plain ea, run_part_plain w u8_plain eb, Result.andThen_ok, run_equalIn_int w d 5 .u8 .u8 _ _ Tryz.underlying5]
    have hq : (((a[i].toNat : Nat) : Int) == (((b[i]'hib).toNat : Nat) : Int)) = (a[i]? == b[i]?) := by
      rw [List.getElem?_eq_getElem hi, List.getElem?_eq_getElem hib, Bool.eq_iff_iff]
      simp only [beq_iff_eq, Option.some.injEq]
      exact ⟨fun e => UInt8.toNat_inj.1 (by omega), fun e => by rw [e]⟩
    rw [hq, List.all_cons]
    cases hc : (a[i]? == b[i]?) with
    | false => simp
    | true =>
      simp only [Bool.not_true, Bool.false_eq_true, if_false, Bool.true_and]
      exact run_items d a b hl w is fun j hj => h j (List.mem_cons_of_mem _ hj)
theorem run_hash_eq (a b : List UInt8) (ha : a.length = 32) (hb : b.length = 32) (w : World) :
    (binOp .eql 24 (.agg (Lib.byteCells a).toArray) (.agg (Lib.byteCells b).toArray)).run Tryz.prog w = .ok (.bool (decide (a = b))) w := by
  obtain ⟨e, hu, rfl⟩ := h32_under
  obtain ⟨i, hi⟩ := Option.isSome_iff_exists.1 u8_info
  rw [run_eql_struct, show (10000 : Nat) = 9998 + 1 + 1 from rfl, run_equalIn_array w (9998 + 1) _ _ hu hi, u8_cells, run_items 9998 a b (by rw [ha, hb]) w _ (fun j hj => by rw [ha]; exact List.mem_range.1 hj)]
  simp only [Result.andThen_ok]
  refine congrArg (fun t => Result.ok (Value.bool t) w) ?_
  rw [Bool.eq_iff_iff, List.all_eq_true, decide_eq_true_eq]
  constructor
  · intro h
    refine List.ext_getElem? fun j => ?_
    by_cases hj : j < 32
    · exact eq_of_beq (h j (List.mem_range.2 hj))
    · rw [List.getElem?_eq_none (by omega), List.getElem?_eq_none (by omega)]
  · rintro rfl j _
    exact beq_self_eq_true _
theorem ckRow_root {W : World} {cb : Nat} {o : ByteArray} {z : Int} {r : List UInt8} {ev : Value} (h : CkRow W cb o z (Lib.byteCells r) ev) : W.rangeAt cb 2 (Lib.byteCells r) := by
  intro j v hv
  rw [cell_of_row _ _ (2 + j) _ _ _ h.2]
  have hj : j < (Lib.byteCells r).length := (List.getElem?_eq_some_iff.1 hv).1
  simp only [ckList, List.getElem?_toArray, Nat.add_comm 2 j, List.getElem?_cons_succ]
  rw [List.getElem?_append_left hj]
  exact hv
/-- A guarded load of a row in a block's middle. -/
theorem wpList_hash {ops : Array Oper} {rest : List Oper} {o : Oper} {a : Act} {W : World} {Q : Exit → Act → World → Prop} (hw : Region.wanted o (yielded ops a.tmps) = true) (x : Operand) (ho : o.op = .load 24 x)
    {cb off : Nat} {q : List UInt8} (hx : a.eval x = .pointer (some ⟨cb, off, none⟩)) (hq : q.length = 32) (hl : W.rangeAt cb off (Lib.byteCells q))
    (h : wpList Tryz.prog ops Q rest (a.put o.dst (.agg (Lib.byteCells q).toArray)) W) : wpList Tryz.prog ops Q (o :: rest) a W :=
  wpList_step fun K hK => by
    rw [if_pos hw]
    obtain ⟨e, hu, rfl⟩ := h32_under
    exact wp_load_mid 24 x ho cb off hx (Lib.byteCells q) _ hl hu rfl (by rw [h32_info, Lib.byteCells_length, hq]) (hK _ _ h)
/-- Two hashes are compared. -/
theorem wpList_hashEq {ops : Array Oper} {rest : List Oper} {o : Oper} {a : Act} {W : World} {Q : Exit → Act → World → Prop} (hw : Region.wanted o (yielded ops a.tmps) = true) (x y : Operand) (t : TypeId) (ho : o.op = .binOp .eql 24 x y t)
    {q r : List UInt8} (hx : a.eval x = .agg (Lib.byteCells q).toArray) (hy : a.eval y = .agg (Lib.byteCells r).toArray) (hq : q.length = 32) (hr : r.length = 32) {b : Bool} (hb : decide (q = r) = b)
    (h : wpList Tryz.prog ops Q rest (a.put o.dst (.bool b)) W) : wpList Tryz.prog ops Q (o :: rest) a W :=
  wpList_step fun K hK => by
    rw [if_pos hw]
    have h1 := run_hash_eq q r hq hr W
    rw [hb] at h1
    have h2 := run_eqGuard_agg W .eql 24 x y (Lib.byteCells q).toArray (Lib.byteCells r).toArray h32_guard
    unfold Oper.wp execOp
    simp only [ho, hx, hy, Sem.run_bind, h2, Result.andThen_ok, h1]
    exact hK _ _ h

set_option maxHeartbeats 2000000 in
set_option maxRecDepth 100000 in
theorem sameCk_any (w : World) (o p : List UInt8) (y z : Nat) (q r : List UInt8) (L M : List (List UInt8)) (u v : Value) (hq : q.length = 32) (hr : r.length = 32) (hL : TextsIn w u L) (hM : TextsIn w v M) (hlL : L.length ≤ 9223372036854775807) (hlM : M.length ≤ 9223372036854775807) :
    Calls Tryz.prog 16 #[.agg (ckList ⟨o.toArray⟩ (y : Int) (Lib.byteCells q) u).toArray, .agg (ckList ⟨p.toArray⟩ (z : Int) (Lib.byteCells r) v).toArray] w fun e w' => e = .returned (.bool (decide ((o, y, q, L) = (p, z, r, M)))) ∧ Below w.heap.size w w' := by
  have hr1 : CkRow (w.alloc (.cells (ckList ⟨o.toArray⟩ (y : Int) (Lib.byteCells q) u).toArray 27)) w.heap.size ⟨o.toArray⟩ (y : Int) (Lib.byteCells q) u := ⟨by rw [Lib.byteCells_length, hq], heap_alloc_new w _⟩
  have hb1 : Below w.heap.size w (w.alloc (.cells (ckList ⟨o.toArray⟩ (y : Int) (Lib.byteCells q) u).toArray 27)) := (Below.refl _ _).alloc (Nat.le_refl _) _
  have hs1 : (w.alloc (.cells (ckList ⟨o.toArray⟩ (y : Int) (Lib.byteCells q) u).toArray 27)).heap.size = w.heap.size + 1 := by simp
  have HL := Lib.hid hL
  have HM := Lib.hid hM
  clear hL hM
  go_enter Tryz.func16, Tryz.ntmps16
  generalize hW1 : w.alloc (.cells (ckList ⟨o.toArray⟩ (y : Int) (Lib.byteCells q) u).toArray 27) = W1 at *
  have hr2 : CkRow (W1.alloc (.cells (ckList ⟨p.toArray⟩ (z : Int) (Lib.byteCells r) v).toArray 27)) W1.heap.size ⟨p.toArray⟩ (z : Int) (Lib.byteCells r) v := ⟨by rw [Lib.byteCells_length, hr], heap_alloc_new W1 _⟩
  have hb2 : Below W1.heap.size W1 (W1.alloc (.cells (ckList ⟨p.toArray⟩ (z : Int) (Lib.byteCells r) v).toArray 27)) := (Below.refl _ _).alloc (Nat.le_refl _) _
  have hr1' := hr1.below hb2
  have hbw := hb1.trans (hb2.mono hb1.size)
  generalize hW2 : W1.alloc (.cells (ckList ⟨p.toArray⟩ (z : Int) (Lib.byteCells r) v).toArray 27) = W2 at *
  rw [hs1] at hr2
  obtain ⟨a0, a1, a34, _⟩ := hr1'.cells
  obtain ⟨b0, b1, b34, _⟩ := hr2.cells
  have l1 := Lib.hid (ckRow_root hr1')
  have l2 := Lib.hid (ckRow_root hr2)
  have HQ := Lib.hid hq
  have HQR := Lib.hid hr
  have HB := Lib.hid hbw
  have HT := Lib.hid (sameTexts_any W2 u v L M (HL.out.below hbw) (HM.out.below hbw) hlL hlM)
  clear hb1 hb2 hr1 hr2 hr1' hbw hq hr HL HM hlL hlM
  have ho : (⟨o.toArray⟩ : ByteArray).toList = o := by rw [ByteArray.toList_eq]
  have hp : (⟨p.toArray⟩ : ByteArray).toList = p := by rw [ByteArray.toList_eq]
  generalize (⟨o.toArray⟩ : ByteArray) = os at *
  generalize (⟨p.toArray⟩ : ByteArray) = ps at *
  by_cases h1 : o = p
  · have e1 : (os.toList == ps.toList) = true := by rw [ho, hp, h1]; exact beq_self_eq_true _
    have e1' : os.toList = ps.toList := by rw [ho, hp, h1]
    subst h1
    by_cases h2 : y = z
    · subst h2
      have e2 : ((y : Int) == (y : Int)) = true := beq_self_eq_true _
      by_cases h3 : q = r
      · subst h3
        have e3 : decide (q = q) = true := by simp
        have HE := Lib.hid e3
        have HR := Lib.hid (show decide ((o, y, q, L) = (o, y, q, M)) = decide (L = M) by simp)
        clear ho hp e3
        go_wp2_with (first | (refine wpList_hash (by rfl) (.tmp 18) (by rfl) (by rfl) HQ.out l1.out ?_) | (refine wpList_hash (by rfl) (.tmp 20) (by rfl) (by rfl) HQR.out l2.out ?_) | (refine wpList_hashEq (by rfl) (.tmp 19) (.tmp 21) _ (by rfl) (by rfl) (by rfl) HQ.out HQR.out HE.out ?_))
        refine HT.out.mono ?_
        rintro e w3 ⟨rfl, n, rfl⟩
        go_wp2_with fail
        go_ret
        exact ⟨ret_bool HR.out.symm, below_drewN HB.out _⟩
      · have e3 : decide (q = r) = false := by simp [h3]
        have HE := Lib.hid e3
        have HR := Lib.hid (show decide ((o, y, q, L) = (o, y, r, M)) = false by simp [h3])
        clear ho hp e3 h3
        go_wp2_with (first | (refine wpList_hash (by rfl) (.tmp 18) (by rfl) (by rfl) HQ.out l1.out ?_) | (refine wpList_hash (by rfl) (.tmp 20) (by rfl) (by rfl) HQR.out l2.out ?_) | (refine wpList_hashEq (by rfl) (.tmp 19) (.tmp 21) _ (by rfl) (by rfl) (by rfl) HQ.out HQR.out HE.out ?_))
        go_ret
        exact ⟨ret_bool HR.out.symm, HB.out⟩
    · have e2 : ((y : Int) == (z : Int)) = false := by rw [beq_eq_false_iff_ne]; omega
      have HR := Lib.hid (show decide ((o, y, q, L) = (o, z, r, M)) = false by simp [h2])
      clear ho hp h2
      go_wp2_with fail
      go_ret
      exact ⟨ret_bool HR.out.symm, HB.out⟩
  · have e1 : (os.toList == ps.toList) = false := by rw [ho, hp, beq_eq_false_iff_ne]; exact h1
    have e1' : ¬ os.toList = ps.toList := by rw [ho, hp]; exact h1
    have HR := Lib.hid (show decide ((o, y, q, L) = (p, z, r, M)) = false by simp [h1])
    clear ho hp h1
    go_wp2_with fail
    go_ret
    exact ⟨ret_bool HR.out.symm, HB.out⟩

end Go.Proofs.YtjmgkallgflcdaaGreatDoor
