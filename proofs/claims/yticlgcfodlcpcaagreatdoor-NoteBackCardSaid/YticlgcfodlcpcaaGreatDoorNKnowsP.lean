/-
  NoteKnows: the argument's cells; a note with one line, opened by two who are known by one name: in plain Lean.
-/
import Derived.Test.YticlgcfodlcpcaaGreatDoorNAlive
namespace Go.Proofs.YticlgcfodlcpcaaGreatDoor
open Go.RowKit

/-- One who signs: the name, the secret, the height's byte. -/
def snC (nm sec : List UInt8) (ht : Nat) : List Value := .string ⟨nm.toArray⟩ :: (Lib.byteCells sec ++ [.int .u8 (ht : Int)])
theorem snC_len {nm sec : List UInt8} {ht : Nat} (h : sec.length = 32) : (snC nm sec ht).length = 34 := by unfold snC; simp [Lib.byteCells_length, h]
theorem snC_size {nm sec : List UInt8} {ht : Nat} (h : sec.length = 32) : (snC nm sec ht).toArray.size = 34 := by rw [List.size_toArray, snC_len h]
theorem snC_one (nm sec : List UInt8) (ht : Nat) : (snC nm sec ht).toArray.all (·.oneCell') = true := by
  rw [List.all_toArray, List.all_eq_true]
  intro x hx
  unfold snC at hx
  simp only [List.mem_cons, List.mem_append, List.not_mem_nil, or_false] at hx
  rcases hx with rfl | hx | rfl
  · rfl
  · exact cells_oneC _ x hx
  · rfl
theorem snC_zero (nm sec : List UInt8) (ht : Nat) : (snC nm sec ht)[0]? = some (.string ⟨nm.toArray⟩) := rfl
theorem snC_ht {nm sec : List UInt8} {ht : Nat} (h : sec.length = 32) : (snC nm sec ht)[33]? = some (.int .u8 (ht : Int)) := by
  unfold snC
  rw [List.getElem?_cons_succ, List.getElem?_append_right (by rw [Lib.byteCells_length, h]; decide), Lib.byteCells_length, h]
  rfl
theorem range_cut {W : World} {g o n : Nat} {L M : List Value} (hr : W.rangeAt g o L) (h : ∀ j v, M[j]? = some v → L[n + j]? = some v) : W.rangeAt g (o + n) M := fun j v hj => by
  have := hr (n + j) v (h j v hj)
  rwa [← Nat.add_assoc] at this
theorem snC_sec {nm sec : List UInt8} {ht : Nat} {W : World} {g o : Nat} (hr : W.rangeAt g o (snC nm sec ht)) : W.rangeAt g (o + 1) (Lib.byteCells sec) := range_cut hr fun j v hj => by
  unfold snC
  rw [Nat.add_comm, List.getElem?_cons_succ, List.getElem?_append_left (List.getElem?_eq_some_iff.1 hj).1]
  exact hj
/-- The argument's cells. -/
def kwC (s nm sec : List UInt8) (ht : Nat) (pub : List UInt8) (height : Int) (own : Bool) : List Value := .string ⟨s.toArray⟩ :: (snC nm sec ht ++ (Lib.byteCells pub ++ [.int .i64 height, .bool own]))
theorem kwC_sn {s nm sec : List UInt8} {ht : Nat} {pub : List UInt8} {height : Int} {own : Bool} {W : World} {g : Nat} (hr : W.rangeAt g 0 (kwC s nm sec ht pub height own)) : W.rangeAt g 1 (snC nm sec ht) := by
  have := range_cut (n := 1) (M := snC nm sec ht) hr fun j v hj => by
    unfold kwC
    rw [Nat.add_comm, List.getElem?_cons_succ, List.getElem?_append_left (List.getElem?_eq_some_iff.1 hj).1]
    exact hj
  exact this
theorem kwC_pub {s nm sec : List UInt8} {ht : Nat} {pub : List UInt8} {height : Int} {own : Bool} {W : World} {g : Nat} (hs : sec.length = 32) (hr : W.rangeAt g 0 (kwC s nm sec ht pub height own)) : W.rangeAt g 35 (Lib.byteCells pub) := by
  have := range_cut (n := 35) (M := Lib.byteCells pub) hr fun j v hj => by
    unfold kwC
    rw [show 35 + j = (34 + j) + 1 by omega, List.getElem?_cons_succ, List.getElem?_append_right (by rw [snC_len hs]; omega), snC_len hs, show 34 + j - 34 = j by omega, List.getElem?_append_left (List.getElem?_eq_some_iff.1 hj).1]
    exact hj
  exact this
theorem kwC_text (s nm sec : List UInt8) (ht : Nat) (pub : List UInt8) (height : Int) (own : Bool) : (kwC s nm sec ht pub height own)[0]? = some (.string ⟨s.toArray⟩) := rfl
theorem kwC_height {s nm sec : List UInt8} {ht : Nat} {pub : List UInt8} {height : Int} {own : Bool} (hs : sec.length = 32) (hp : pub.length = 32) : (kwC s nm sec ht pub height own)[67]? = some (.int .i64 height) ∧ (kwC s nm sec ht pub height own)[68]? = some (.bool own) := by
  unfold kwC
  constructor
  · rw [List.getElem?_cons_succ, List.getElem?_append_right (by rw [snC_len hs]; omega), snC_len hs, List.getElem?_append_right (by rw [Lib.byteCells_length, hp]; omega), Lib.byteCells_length, hp]
    rfl
  · rw [List.getElem?_cons_succ, List.getElem?_append_right (by rw [snC_len hs]; omega), snC_len hs, List.getElem?_append_right (by rw [Lib.byteCells_length, hp]; omega), Lib.byteCells_length, hp]
    rfl
theorem row_range {W : World} {g : Nat} {L : List Value} {T : TypeId} {fr : Nat × Nat} (h : W.heap[g]? = some (.cells L.toArray T fr)) : W.rangeAt g 0 L := fun j v hj => by
  rw [Nat.zero_add]
  exact cell_of h j (by rw [List.getElem?_toArray]; exact hj)
set_option maxRecDepth 100000 in
theorem infoSn : (Tryz.prog.info? 60).map (·.size) = some 34 := by kernel_rfl
theorem wpList_snLoad {ops : Array Oper} {rest : List Oper} {o : Oper} {a : Act} {W : World} {Q : Exit → Act → World → Prop} (hgd : o.guard = none) (x : Operand) (ho : o.op = .load 60 x)
    (g off : Nat) (hx : a.eval x = .pointer (some ⟨g, off, none⟩)) (nm sec : List UInt8) (ht : Nat) (hl : sec.length = 32) (hr : W.rangeAt g off (snC nm sec ht))
    (h : wpList Tryz.prog ops Q rest (a.put o.dst (.agg (snC nm sec ht).toArray)) W) : wpList Tryz.prog ops Q (o :: rest) a W :=
  wpList_load_mid hgd 60 x ho g off hx (snC nm sec ht) _ hr Tryz.underlying60 rfl (by rw [snC_len hl]; exact infoSn) h
theorem wpList_snStore {ops : Array Oper} {rest : List Oper} {o : Oper} {a : Act} {w2 : World} {Q : Exit → Act → World → Prop} (hgd : o.guard = none) (x y : Operand) (ho : o.op = .store 60 x y)
    {nm sec : List UInt8} {ht : Nat} {old : Array Value} (hx : a.eval x = .pointer (some ⟨w2.heap.size, 0, none⟩)) (hy : a.eval y = .agg (snC nm sec ht).toArray) (hl : sec.length = 32) (hold : old.size = 34)
    (h : wpList Tryz.prog ops Q rest (a.put o.dst undef) (w2.alloc (.cells (snC nm sec ht).toArray 60))) : wpList Tryz.prog ops Q (o :: rest) a (w2.alloc (.cells old 60)) := by
  refine wpList_store_row hgd 60 x y ho w2.heap.size _ hx hy 60 old (heap_alloc_new w2 _) (by rw [snC_size hl]; exact infoSn) (by rw [snC_size hl, hold]) (snC_one nm sec ht) ?_
  rw [stored1]
  exact h
theorem sg_codeH (h : Nat) (s : List UInt8) (name : List UInt8) (hno : (splitN s).2.1 ≠ 0) : sgCode h 0 s name = if nameOf name = true ∧ mayTxt s = true then 0 else 2 := by
  have h0 : 0 < 2 ^ h := Nat.two_pow_pos h
  unfold sgCode
  cases hn : nameOf name with
  | false => simp
  | true =>
    cases hm : mayTxt s with
    | false =>
      have e : splitL s = none := by unfold splitL; rw [if_neg hno, hm]; simp
      rw [e]
      simp
    | true =>
      rw [splitL_text hm hno]
      simp
      omega
theorem knows_open (sec s nm pub : List UInt8) (h : Nat) (height : Int) (k2 : Kn) (h6 : h ≤ 6) (hm : mayTxt s = true) (hna : nameOf nm = true) :
    openN (noteL s [sgLine sec h 0 s nm]) [(nm, pub, height), k2] = if verF pub height s 0 (signF (ownF sec 0) (msgF 0 s)) (kpath sec h 0) = 0 then ((s, [nm]), 0, none) else (([], []), 12, none) := by
  have hs := splitN_one (s := sec) (nx := 0) h6 hm hna
  have e : decF (sgLine sec h 0 s nm).2 = some (0, signF (ownF sec 0) (msgF 0 s), kpath sec h 0) :=
    dec_enc 0 _ _ (by omega) (signF_length _ _) (by rw [kpath_length]; exact h6) (signF_len _ _) (kpath_len sec h 0)
  have hh : holdsF s (nm, pub, height) (sgLine sec h 0 s nm).2 = decide (verF pub height s 0 (signF (ownF sec 0) (msgF 0 s)) (kpath sec h 0) = 0) := by
    unfold holdsF
    rw [e]
    rfl
  have hf : fndK [(nm, pub, height), k2] (sgLine sec h 0 s nm).1 = some (nm, pub, height) := by
    unfold fndK
    exact List.find?_cons_of_pos (decide_eq_true (show nm = nm from rfl))
  unfold openN
  rw [hs]
  have hx1 : (sgLine sec h 0 s nm).1 = nm := rfl
  generalize sgLine sec h 0 s nm = x at *
  by_cases hv : verF pub height s 0 (signF (ownF sec 0) (msgF 0 s)) (kpath sec h 0) = 0
  · rw [if_pos hv]
    rw [decide_eq_true hv] at hh
    have e2 : openL s [(nm, pub, height), k2] [x] = some [nm] := by
      rw [openL_yes hf hh, hx1, openL]
      rfl
    simp only [e2]
    simp
  · rw [if_neg hv]
    rw [decide_eq_false hv] at hh
    have e2 : openL s [(nm, pub, height), k2] [x] = none := openL_bad hf hh
    simp only [e2]
    simp
theorem yieldsIf_buildKn3 {ops : Array Oper} {S : World → Prop} {op : Oper} {a : Act} (hw : Region.wanted op (yielded ops a.tmps) = true) (x y z : Operand) (ho : op.op = .build 64 #[(0, x), (1, y), (2, z)])
    (nm H : List UInt8) (i : Int) (hx : a.eval x = .string ⟨nm.toArray⟩) (hy : a.eval y = .agg (Lib.byteCells H).toArray) (hz : a.eval z = .int .i64 i) (hH : H.length = 32) : YieldsIf Tryz.prog ops S op (.agg (knC (nm, H, i)).toArray) a :=
  .inl ⟨hw, fun w _ => by
    have hb := run_build (P := Tryz.prog) w 64 #[(0, .string ⟨nm.toArray⟩), (1, .agg (Lib.byteCells H).toArray), (2, .int .i64 i)] _ (built_known3 nm H hH i)
    unfold execOp
    simp only [ho, List.map_toArray, List.map_cons, List.map_nil, hx, hy, hz, Sem.run_bind, hb, Result.andThen_ok, Sem.run_pure]⟩
set_option maxRecDepth 100000 in
theorem run_buildSlice_kn2 (k l : Kn) (hk : k.2.1.length = 32) (hl : l.2.1.length = 32) (w : World) : (Instr.buildSlice 57 2 #[(0, .agg (knC k).toArray), (1, .agg (knC l).toArray)]).run Tryz.prog w = .ok (.slice (some ⟨w.heap.size, 0, none⟩) 2 2) (w.alloc (.cells (knC k ++ knC l).toArray 64)) := by
  obtain ⟨nm, H, h⟩ := k
  obtain ⟨nm2, H2, h2⟩ := l
  obtain ⟨f, hf⟩ := as_fun H hk
  obtain ⟨f2, hf2⟩ := as_fun H2 hl
  subst hf
  subst hf2
  kernel_rfl
theorem knIn_two (w : World) (k l : Kn) (hk : k.2.1.length = 32) : KnIn (w.alloc (.cells (knC k ++ knC l).toArray 64)) (.slice (some ⟨w.heap.size, 0, none⟩) 2 2) [k, l] := ⟨_, 2, rfl, fun _ => ⟨_, rfl, fun i x hx => by
  have hr := row_range (heap_one w (.cells (knC k ++ knC l).toArray 64 (0, 0)))
  match i, hx with
  | 0, hx =>
    simp only [List.getElem?_cons_zero, Option.some.injEq] at hx
    subst hx
    intro j v hj
    have := hr j v (by rw [List.getElem?_append_left (List.getElem?_eq_some_iff.1 hj).1]; exact hj)
    simpa using this
  | 1, hx =>
    simp only [List.getElem?_cons_succ, List.getElem?_cons_zero, Option.some.injEq] at hx
    subst hx
    have := range_cut (n := 34) (M := knC l) hr fun j v hj => by
      rw [List.getElem?_append_right (by rw [knC_len hk]; omega), knC_len hk, show 34 + j - 34 = j by omega]
      exact hj
    exact this
  | i + 2, hx => simp at hx⟩⟩
theorem ErrAt.some5 {S : Nat → Addr} {w : World} {v : Value} {c : Nat} {p : Option Int} (h : ErrAt S w v c p) (hc : c ≠ 0) : ∃ T x, v = .iface T x ∧ (∀ W, (binOp .neq 34 (.iface T x) .nilIface).run Tryz.prog W = .ok (.bool true) W) ∧ (∀ W, (binOp .eql 34 (.iface T x) .nilIface).run Tryz.prog W = .ok (.bool false) W) := by
  rcases h with ⟨_, h, _⟩ | ⟨_, _, h, _⟩ | ⟨_, _, b, y, h, _⟩
  · exact absurd h hc
  · exact ⟨_, _, h, fun W => run_err_neq (S c) W, fun W => run_err_eq (S c) W⟩
  · exact ⟨_, _, h, fun W => fault_ne_nil b W, fun W => fault_eq_nil b W⟩
end Go.Proofs.YticlgcfodlcpcaaGreatDoor
