/-
  cartularylaw03.TextWrong: what its walk wants of each reading.
-/
import Derived.Test.YtobnlnkmonaohaaDoorWrong1
namespace Go.Proofs.YtobnlnkmonaohaaDoor
open Go.RowKit

/-- err != nil -/
theorem neq_nil (ev : Value) (bb : Bool) (h : (ev = .nilIface ∧ bb = false) ∨ ((∃ b, ev = fv b) ∧ bb = true)) :
    (∀ (n : Tmp) (W : World), (eqGuard BinOp.neq 23 (.tmp n) (.const .nilIface) ev .nilIface).run Tryd.prog W = .ok () W) ∧ ∀ W : World, (binOp BinOp.neq 23 ev .nilIface).run Tryd.prog W = .ok (.bool bb) W := by
  rcases h with ⟨rfl, rfl⟩ | ⟨⟨b, rfl⟩, rfl⟩
  · exact ⟨fun _ _ => by kernel_rfl, fun _ => by kernel_rfl⟩
  · exact ⟨fun _ _ => by kernel_rfl, fun _ => by kernel_rfl⟩
/-- Either way of a reading. -/
def Either (S : Nat → Addr) (A : Nat × Option Int) (w : World) (e : Ending) (w' : World) : Prop :=
  ∃ v ev bb, e = .returned (.tuple #[v, ev]) ∧ Below w.heap.size w w' ∧ Base S w' ∧ ((ev = .nilIface ∧ bb = false) ∨ ((∃ b, ev = fv b) ∧ bb = true)) ∧
    ((bb = false ∧ A.1 = 0) ∨ (bb = true ∧ A.1 ≠ 0)) ∧ ErrAt S w' ev A.1 A.2
theorem either_of {S : Nat → Addr} {w : World} {v : Value} {A : Nat × Option Int} (hB : Base S w) (hA : A = (0, none) ∨ ∃ k : Nat, A = (3, some (k : Int))) {e : Ending} {w' : World} (ht : Told S w v A.1 A.2 e w') : Either S A w e w' := by
  obtain ⟨ev, rfl, he, hb⟩ := ht
  rcases hA with rfl | ⟨k, rfl⟩
  · refine ⟨v, ev, false, rfl, hb, hB.below hb, .inl ⟨ErrAt.zero he, rfl⟩, .inl ⟨rfl, rfl⟩, he⟩
  · obtain ⟨b, rfl⟩ := err_fault he
    exact ⟨v, _, true, rfl, hb, hB.below hb, .inr ⟨⟨b, rfl⟩, rfl⟩, .inr ⟨rfl, by simp⟩, he⟩
theorem toldAt_form {α : Type} (z : α) (x : Except Nat α) : (toldAt z x).2 = (0, none) ∨ ∃ k : Nat, (toldAt z x).2 = (3, some (k : Int)) := by
  cases x with
  | ok x => exact .inl rfl
  | error e => exact .inr ⟨e, rfl⟩
section
variable (S : Nat → Addr) (s : ByteArray) (hs : s.size ≤ 60000)
include hs
theorem f64_either (w : World) (hB : Base S w) : Calls Tryd.prog 13 #[.string s] w (Either S (fromB64 s.data.toList).2 w) :=
  (fromBase64_any S s w (by omega) hB).mono fun _ _ ht => either_of hB (by rw [fromB64_of_run _ (by rw [size_list]; omega)]; exact toldAt_form _ _) ht
theorem fhex_either (w : World) (hB : Base S w) : Calls Tryd.prog 28 #[.string s] w (Either S (fromHexL s.data.toList).2 w) :=
  (fromHex_any S s w (by omega) hB).mono fun _ _ ht => either_of hB (by rw [fromHex_of_run _ (by rw [size_list]; omega)]; exact toldAt_form _ _) ht
theorem fdec_either (w : World) (hB : Base S w) : Calls Tryd.prog 29 #[.string s] w (Either S (fromDec s.data.toList).2 w) :=
  (fromDecimal_any S s w (by omega) hB).mono fun _ _ ht => either_of hB (by
    unfold fromDec
    rw [if_neg (by rw [size_list]; omega)]
    cases s.data.toList with
    | nil => exact .inr ⟨0, rfl⟩
    | cons f r => exact toldAt_form _ _) ht
theorem take_small (k : Nat) : (s.extract 0 k).size ≤ 60000 := by
  rw [← size_list, extract_list, List.drop_zero, List.length_take, size_list]; omega
end
theorem take_list (s : ByteArray) (k : Nat) : (s.extract 0 k).data.toList = s.data.toList.take k := by rw [extract_list]; simp
theorem take_app (s m : ByteArray) (k : Nat) : (s.extract 0 k ++ m).data.toList = s.data.toList.take k ++ m.data.toList := by rw [data_app2, take_list]
end Go.Proofs.YtobnlnkmonaohaaDoor
