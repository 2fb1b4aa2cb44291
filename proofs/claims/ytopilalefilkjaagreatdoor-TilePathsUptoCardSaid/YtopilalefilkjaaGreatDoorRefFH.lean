/-
  cartularyref03: number, group and Wrong64 by contracts. cartularyref03: Hex by its contract. cartularyref02's faults and cartularyref03's FromHex by contracts.
-/
import Derived.Test.YtopilalefilkjaaGreatDoorRef64P
import Derived.Test.YtopilalefilkjaaGreatDoorHexP
import Derived.Test.YtopilalefilkjaaGreatDoorHex
import Derived.Deep.AppendLies
namespace Go.Proofs.YtopilalefilkjaaGreatDoor
open Go.RowKit

theorem ret_int {k : IntKind} {a b : Int} (h : a = b) : Ending.returned (.int k a) = Ending.returned (.int k b) := by rw [h]
theorem drop_cons {l : List UInt8} {k : Nat} {c : UInt8} (h : l[k]? = some c) : l.drop k = c :: l.drop (k + 1) := by
  have hlt := (List.getElem?_eq_some_iff.1 h).1
  rw [List.drop_eq_getElem_cons hlt]
  congr 1
  exact (List.getElem?_eq_some_iff.1 h).2
theorem indexByte_step (x c : UInt8) (r : List UInt8) : Lib.indexByte (x :: r) c = if x = c then 0 else if Lib.indexByte r c = -1 then -1 else Lib.indexByte r c + 1 := by
  conv => lhs; unfold Lib.indexByte
  by_cases h : x = c
  · simp [h]
  · have : (x == c) = false := by simp [h]
    rw [this, if_neg (by simp), if_neg h]
    by_cases h2 : Lib.indexByte r c = -1
    · simp [h2]
    · rw [if_neg (by simpa using h2), if_neg h2]

end Go.Proofs.YtopilalefilkjaaGreatDoor

namespace Go.Proofs.YtopilalefilkjaaGreatDoor
open Go.RowKit

def RHexRel (s : ByteArray) (w : World) (vo vi : Value) (wr : World) : Prop :=
  ∃ (k : Nat) (out : List UInt8), k ≤ s.size ∧ vi = .int .i64 k ∧ out.length = 2 * k ∧ wr.ownsRow w.heap.size 5 1 vo out.length (Lib.byteCells out) ∧ Below w.heap.size w wr ∧ out ++ hexL (s.data.toList.drop k) = hexL s.data.toList

end Go.Proofs.YtopilalefilkjaaGreatDoor

namespace Go.Proofs.YtopilalefilkjaaGreatDoor
open Go.RowKit

theorem faultInfo : (Tryz.prog.info? 30).map (·.size) = some 2 := by kernel_rfl
theorem faultPlain_any (c : Int) (hc : c ≠ 0) (w : World) :
    Calls Tryz.prog 40 #[.int .i64 c] w fun e w' => e = .returned (.agg #[.int .i64 c, .int .i64 (-1)]) ∧ Below w.heap.size w w' := by
  have h1 : (c == 0) = false := by simpa using hc
  clear hc
  go_enter Tryz.func40, Tryz.ntmps40
  go_wp2_with fail
  refine bodyPost_ret (v := .agg #[.int .i64 c, .int .i64 (-1)]) ?_ rfl ⟨rfl, (Below.refl _ _).alloc (Nat.le_refl _) _⟩
  exact results_cell_row rfl _ _ w.heap.size 30 _ (0, 0) _ rfl (heap_alloc_new w _) Tryz.underlying30 rfl faultInfo
/-- A value, and a whole row out of a cell. -/
theorem results_tmp_row {P : Program} {fn : Func} {u p : Tmp} {ty : TypeId} (h : fn.results = #[.tmp u, .cell p ty]) (tmps : Array Value) (w : World) (g : Nat) (t : TypeId) (cs : Array Value) (fr : Nat × Nat) (d : TypeDesc)
    (hp : tmps.getD p undef = .pointer (some ⟨g, 0, none⟩)) (hg : w.heap[g]? = some (.cells cs t fr))
    (hu : P.underlying ty = some d) (hd : (match d with | .struct _ | .array _ _ => true | _ => false) = true) (hi : (P.info? ty).map (·.size) = some cs.size) :
    (results fn tmps).run P w = .ok (.tuple #[tmps.getD u undef, .agg cs]) w := by
  have hp' : tmps[p]?.getD undef = .pointer (some ⟨g, 0, none⟩) := by simpa using hp
  simp [results, h, hp', asAddr, run_loadVar_row w g t ty cs fr d hg hu hd hi, Result.andThen]

/-- The place of a fault as a reference tells it. -/
def fz (c : Nat) (p : Option Int) : Int := if c = 0 then 0 else p.getD (-1)

def faultRow (w : World) (g : Nat) (c z : Int) : Prop := w.heap[g]? = some (.cells #[.int .i64 c, .int .i64 z] 30 (0, 0))
theorem fault_set {w : World} {g : Nat} {a b : Int} (h : faultRow w g a b) (c z : Int) : faultRow ((w.setCell ⟨g, 0, none⟩ (.int .i64 c)).setCell ⟨g, 1, none⟩ (.int .i64 z)) g c z := by
  have h1 := heap_setCell_same w g 0 _ _ (.int .i64 c) h
  exact heap_setCell_same _ g 1 _ _ (.int .i64 z) h1
theorem ret_told {fn : Func} {u p : Tmp} (hf : fn.results = #[.tmp u, .cell p 30]) {Q : Ending → World → Prop} {a : Act} {w : World} (g : Nat) (c z : Int) (v : Value)
    (hg : faultRow w g c z) (hd : a.defers = []) (hp : a.tmps.getD p undef = .pointer (some ⟨g, 0, none⟩)) (hv : a.tmps.getD u undef = v) (hQ : Q (.returned (.tuple #[v, .agg #[.int .i64 c, .int .i64 z]])) w) : bodyPost Tryz.prog fn Q .ret a w := by
  refine bodyPost_ret (v := .tuple #[v, .agg #[.int .i64 c, .int .i64 z]]) ?_ hd hQ
  rw [← hv]
  exact results_tmp_row hf _ _ g 30 _ (0, 0) _ hp hg Tryz.underlying30 rfl faultInfo
def fW (w : World) : World := w.alloc (.cells #[.int .i64 0, .int .i64 0] 30)
theorem fW_row (w : World) : faultRow (fW w) w.heap.size 0 0 := heap_alloc_new w _
theorem fW_size (w : World) : (fW w).heap.size = w.heap.size + 1 := by simp [fW]
theorem fW_below {w w' : World} (h : Below (fW w).heap.size (fW w) w') : Below w.heap.size w w' :=
  below_trans ((Below.refl _ _).alloc (Nat.le_refl _) _) h
theorem faultRow.below {w w' : World} {g : Nat} {a b : Int} (h : faultRow w g a b) (hb : Below w.heap.size w w') : faultRow w' g a b := below_heap hb h
theorem faultRow.cells {w : World} {g : Nat} {a b : Int} (h : faultRow w g a b) : w.cell? ⟨g, 0, none⟩ = some (.int .i64 a) ∧ w.cell? ⟨g, 1, none⟩ = some (.int .i64 b) ∧ w.frozen? ⟨g, 0, none⟩ = false ∧ w.frozen? ⟨g, 1, none⟩ = false :=
  ⟨by rw [cell_of_row _ _ 0 _ _ _ h]; rfl, by rw [cell_of_row _ _ 1 _ _ _ h]; rfl, frozen_row h 0, frozen_row h 1⟩
/-- The end of a call that stores a fault into its result's cell. -/
theorem end_below {w w1 : World} (h : Below w.heap.size w w1) (c z : Int) : Below w.heap.size w ((w1.setCell ⟨w.heap.size, 0, none⟩ (.int .i64 c)).setCell ⟨w.heap.size, 1, none⟩ (.int .i64 z)) :=
  (h.setCell (p := ⟨w.heap.size, 0, none⟩) (Nat.le_refl _) _).setCell (p := ⟨w.heap.size, 1, none⟩) (Nat.le_refl _) _

theorem badH_inv {c : UInt8} {r : List UInt8} (h : badH (c :: r) = -1) : 0 ≤ idx16 c ∧ badH r = -1 := by
  unfold badH at h
  split at h
  · omega
  · split at h
    · rename_i h1 h2; exact ⟨by omega, h2⟩
    · have := badH_ge r; omega
def BadRel (s : ByteArray) (v : Value) : Prop :=
  ∃ k : Nat, k ≤ s.size ∧ v = .int .i64 k ∧ badH s.data.toList = if badH (s.data.toList.drop k) = -1 then -1 else badH (s.data.toList.drop k) + k
def RFHRel (s : ByteArray) (w : World) (vo vi : Value) (wr : World) : Prop :=
  ∃ (k : Nat) (out : List UInt8), k ≤ s.size ∧ k % 2 = 0 ∧ vi = .int .i64 k ∧ out.length ≤ k ∧ wr.ownsRow (fW w).heap.size 5 1 vo out.length (Lib.byteCells out) ∧ Below (fW w).heap.size (fW w) wr ∧
    badH (s.data.toList.drop k) = -1 ∧ out ++ decH (s.data.toList.drop k) = decH s.data.toList

theorem badH_step {c : UInt8} {r : List UInt8} (h : ¬ idx16 c < 0) : badH (c :: r) = if badH r = -1 then -1 else badH r + 1 := by
  show (if idx16 c < 0 then (0 : Int) else if badH r = -1 then -1 else badH r + 1) = _
  rw [if_neg h]
theorem badH_zero {c : UInt8} {r : List UInt8} (h : idx16 c < 0) : badH (c :: r) = 0 := by
  show (if idx16 c < 0 then (0 : Int) else if badH r = -1 then -1 else badH r + 1) = _
  rw [if_pos h]
/-- What a reference's reading says. -/
def told2 (x : List UInt8 × Nat × Option Int) : Value := .tuple #[.string ⟨x.1.toArray⟩, .agg #[.int .i64 (x.2.1 : Int), .int .i64 (fz x.2.1 x.2.2)]]

end Go.Proofs.YtopilalefilkjaaGreatDoor
