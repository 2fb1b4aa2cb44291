/-
  Readings that go well or wrong, by contracts for TextWrong; place and ends64.
-/
import Derived.Test.YtobnlnkmonaohaaDoorWrongP
import Derived.Test.YtobnlnkmonaohaaDoorHex
import Derived.Test.YtobnlnkmonaohaaDoorRefW
import Derived.Test.YtobnlnkmonaohaaDoorRows2
import Derived.Test.YtobnlnkmonaohaaDoorSeen2
import Derived.Test.YtobnlnkmonaohaaDoorAlive
namespace Go.Proofs.YtobnlnkmonaohaaDoor
open Go.RowKit

abbrev fv (b : Nat) : Value := .iface 90 (.pointer (some ⟨b, 0, none⟩))
/-- A reading that answers this value and no error. -/
def Good (S : Nat → Addr) (w : World) (e : Ending) (w' : World) : Prop := ∃ v, e = .returned (.tuple #[v, .nilIface]) ∧ Below w.heap.size w w' ∧ Base S w'
def Bad (S : Nat → Addr) (k : Nat) (w : World) (e : Ending) (w' : World) : Prop := ∃ v b, e = .returned (.tuple #[v, fv b]) ∧ ErrAt S w' (fv b) 3 (some (k : Int)) ∧ Below w.heap.size w w' ∧ Base S w'
theorem good_of {S : Nat → Addr} {w : World} {v : Value} {c : Nat} {p : Option Int} (hB : Base S w) (h : (c, p) = (0, none)) {e : Ending} {w' : World} (ht : Told S w v c p e w') : Good S w e w' := by
  injection h with h1 h2
  subst h1; subst h2
  obtain ⟨ev, rfl, he, hb⟩ := ht
  rw [he.zero]
  exact ⟨v, rfl, hb, hB.below hb⟩
theorem bad_of {S : Nat → Addr} {w : World} {v : Value} {c : Nat} {p : Option Int} {k : Nat} (hB : Base S w) (h : (c, p) = (3, some (k : Int))) {e : Ending} {w' : World} (ht : Told S w v c p e w') : Bad S k w e w' := by
  injection h with h1 h2
  subst h1; subst h2
  obtain ⟨ev, rfl, he, hb⟩ := ht
  obtain ⟨b, rfl⟩ := err_fault he
  exact ⟨v, b, rfl, he, hb, hB.below hb⟩
section
variable (S : Nat → Addr) (s : ByteArray) (l : List UInt8) (hl : s.data.toList = l) (hs : s.size ≤ 9223372036854775807)
include hl hs
theorem f64_good (h : (fromB64 l).2 = (0, none)) (w : World) (hB : Base S w) : Calls Tryd.prog 13 #[.string s] w (Good S w) :=
  (fromBase64_any S s w hs hB).mono fun _ _ ht => good_of hB (by rw [hl]; exact h) ht
theorem f64_bad (k : Nat) (h : (fromB64 l).2 = (3, some (k : Int))) (w : World) (hB : Base S w) : Calls Tryd.prog 13 #[.string s] w (Bad S k w) :=
  (fromBase64_any S s w hs hB).mono fun _ _ ht => bad_of hB (by rw [hl]; exact h) ht
theorem fhex_good (h : (fromHexL l).2 = (0, none)) (w : World) (hB : Base S w) : Calls Tryd.prog 28 #[.string s] w (Good S w) :=
  (fromHex_any S s w hs hB).mono fun _ _ ht => good_of hB (by rw [hl]; exact h) ht
theorem fhex_bad (k : Nat) (h : (fromHexL l).2 = (3, some (k : Int))) (w : World) (hB : Base S w) : Calls Tryd.prog 28 #[.string s] w (Bad S k w) :=
  (fromHex_any S s w hs hB).mono fun _ _ ht => bad_of hB (by rw [hl]; exact h) ht
theorem fdec_good (h : (fromDec l).2 = (0, none)) (w : World) (hB : Base S w) : Calls Tryd.prog 29 #[.string s] w (Good S w) :=
  (fromDecimal_any S s w hs hB).mono fun _ _ ht => good_of hB (by rw [hl]; exact h) ht
theorem fdec_bad (k : Nat) (h : (fromDec l).2 = (3, some (k : Int))) (w : World) (hB : Base S w) : Calls Tryd.prog 29 #[.string s] w (Bad S k w) :=
  (fromDecimal_any S s w hs hB).mono fun _ _ ht => bad_of hB (by rw [hl]; exact h) ht
end
theorem isAt_true (S : Nat → Addr) (w : World) (b k : Nat) (hB : Base S w) (h : ErrAt S w (fv b) 3 (some (k : Int))) :
    Calls Tryd.prog 24 #[fv b, .int .i64 3, .int .i64 (k : Int)] w fun e w' => e = .returned (.bool true) ∧ Below w.heap.size w w' ∧ Base S w' := by
  refine (isAt_any S w (fv b) 3 (some (k : Int)) 3 (k : Int) hB h).mono ?_
  rintro e w' ⟨rfl, hb⟩
  exact ⟨ret_bool (by simp [isAtB]), hb, hB.below hb⟩
set_option maxHeartbeats 1000000 in
theorem place_any (S : Nat → Addr) (s : ByteArray) (w : World) (b k : Nat) (hk : k ≤ s.size) (hB : Base S w) (h : ErrAt S w (fv b) 3 (some (k : Int))) :
    Calls Tryd.prog 26 #[fv b, .string s] w fun e w' => e = .returned (.int .i64 (k : Int)) ∧ Below w.heap.size w w' ∧ Base S w' := by
  have HA := Lib.hid (at_any S w (fv b) 3 (some (k : Int)) hB h)
  have HB := Lib.hid hB
  have HE := Lib.hid h
  clear hB h
  go_enter Tryd.func26, Tryd.ntmps26
  go_wp2_with fail
  refine HA.out.mono ?_
  rintro e w1 ⟨rfl, b1⟩
  simp only [Option.getD_some, Option.isSome_some]
  have HI := Lib.hid (isAt_true S w1 b k (HB.out.below b1) (HE.out.below b1))
  go_wp2_with fail
  refine HI.out.mono ?_
  rintro e w2 ⟨rfl, b2, hB2⟩
  have HB2 := Lib.hid hB2
  clear hB2
  go_wp2_with fail
  go_ret
  exact ⟨rfl, below_trans b1 b2, HB2.out⟩

/-! ### ends64 -/
def endStr (k : Nat) : ByteArray := ⟨(ends64L.getD k []).toArray⟩
def endCells : Array Value := #[.string ⟨#[]⟩, .string ⟨#[65]⟩, .string ⟨#[61]⟩, .string ⟨#[61, 61]⟩, .string ⟨#[65, 65]⟩, .string ⟨#[65, 65, 65]⟩, .string ⟨#[65, 61]⟩, .string ⟨#[65, 61, 61]⟩, .string ⟨#[103, 61, 61]⟩, .string ⟨#[73, 61]⟩, .string ⟨#[119, 65, 61, 61]⟩, .string ⟨#[65, 73, 61]⟩]
theorem endCells_at (k : Nat) (h : k < 12) : endCells[k]? = some (.string (endStr k)) := by
  rcases (show k = 0 ∨ k = 1 ∨ k = 2 ∨ k = 3 ∨ k = 4 ∨ k = 5 ∨ k = 6 ∨ k = 7 ∨ k = 8 ∨ k = 9 ∨ k = 10 ∨ k = 11 by omega) with rfl | rfl | rfl | rfl | rfl | rfl | rfl | rfl | rfl | rfl | rfl | rfl <;> rfl
theorem endStr_le (k : Nat) : (endStr k).size ≤ 4 := by
  have h : ∀ t ∈ ends64L, t.length ≤ 4 := by decide
  have : (ends64L.getD k []).length ≤ 4 := by
    rw [List.getD_eq_getElem?_getD]
    cases hq : ends64L[k]? with
    | none => simp
    | some t => exact h t (List.mem_of_getElem? hq)
  rw [← size_list]
  exact this
theorem ends_at {t : List UInt8} (h : t ∈ ends64L) : ∃ j, j < 12 ∧ ends64L.getD j [] = t := by
  obtain ⟨j, hj, e⟩ := List.mem_iff_getElem.1 h
  refine ⟨j, hj, ?_⟩
  rw [List.getD_eq_getElem?_getD, List.getElem?_eq_getElem hj, e]; rfl
def EndRel (l : List UInt8) (w : World) (v : Value) (wr : World) : Prop :=
  ∃ k j : Nat, k ≤ j ∧ j < 12 ∧ v = .int .i64 k ∧ (fromB64 (l ++ ends64L.getD j [])).2 = (0, none) ∧ Below (w.alloc (.cells endCells 85)).heap.size (w.alloc (.cells endCells 85)) wr
theorem f64_err2 {l : List UInt8} (h : l.length ≤ 60004) (hc : (fromB64 l).2 ≠ (0, none)) : ∃ k, (fromB64 l).2 = (3, some ((k : Nat) : Int)) := by
  rw [fromB64_of_run l (by omega)] at hc ⊢
  cases hr : runB 0 0 0 false [] l with
  | ok o =>
    rw [hr] at hc
    by_cases h4 : l.length % 4 = 0
    · rw [end_ok _ _ h4] at hc; exact absurd rfl hc
    · rw [end_bad _ _ h4]; exact ⟨_, rfl⟩
  | error e => exact ⟨e, rfl⟩

set_option maxHeartbeats 2000000 in
set_option maxRecDepth 100000 in
theorem ends64_any (S : Nat → Addr) (s : ByteArray) (l : List UInt8) (hl : s.data.toList = l) (w : World) (hs : s.size ≤ 60000) (hB : Base S w) (ht : ∃ t ∈ ends64L, (fromB64 (l ++ t)).2 = (0, none)) :
    Calls Tryd.prog 27 #[.string s] w fun e w' => e = .returned (.bool true) ∧ Below w.heap.size w w' ∧ Base S w' := by
  obtain ⟨t, ht, hgood⟩ := ht
  obtain ⟨j0, hj0, rfl⟩ := ends_at ht
  have hl1 : l.length = s.size := by rw [← hl, size_list]
  have HG := Lib.hid hgood
  have HL := Lib.hid hl
  have HL1 := Lib.hid hl1
  have b0 : Below w.heap.size w (w.alloc (.cells endCells 85)) := (Below.refl _ _).alloc (Nat.le_refl _) _
  have HB := Lib.hid (hB.below b0)
  have HB0 := Lib.hid b0
  clear hgood hl hl1 hB b0 ht
  go_enter Tryd.func27, Tryd.ntmps27
  go_wp2_with fail
  go_loopw [4] (fun v wr => EndRel l w v wr) (fun v _ => 12 - (intOf v).toNat)
  case atStart => exact ⟨0, j0, by omega, hj0, rfl, HG.out, Below.refl _ _⟩
  case round =>
    obtain ⟨k, j, hkj, hj, rfl, hgood, hbel⟩ := hrel
    have HGJ := Lib.hid hgood
    have HBR := Lib.hid (HB.out.below hbel)
    have hrow := below_heap hbel (heap_alloc_new w (.cells endCells 85))
    have hk12 : k < 12 := by omega
    have hcell : wr.cell? ⟨w.heap.size, k, none⟩ = some (.string (endStr k)) := by rw [cell_of_row _ _ k _ _ _ hrow, endCells_at k hk12]
    have hsz := endStr_le k
    have hlist : (s ++ endStr k).data.toList = l ++ ends64L.getD k [] := by rw [data_app2, HL.out]; rfl
    have hsz2 : (s ++ endStr k).size ≤ 60004 := by rw [size_app2]; omega
    have hlen : (l ++ ends64L.getD k []).length ≤ 60004 := by rw [← hlist, size_list]; exact hsz2
    clear hgood hrow
    by_cases hok : (fromB64 (l ++ ends64L.getD k [])).2 = (0, none)
    · have HC := Lib.hid (f64_good S (s ++ endStr k) _ hlist (by omega) hok wr HBR.out)
      clear hok hlist hsz2 hlen
      generalize endStr k = es at *
      go_wp2_with fail
      refine HC.out.mono ?_
      rintro e w1 ⟨v, rfl, b1, hB1⟩
      have HB1 := Lib.hid hB1
      clear hB1
      go_wp2_with fail
      go_ret
      exact ⟨rfl, below_trans HB0.out (hbel.trans (b1.mono hbel.size)), HB1.out⟩
    · obtain ⟨i, hi⟩ := f64_err2 hlen hok
      have HC := Lib.hid (f64_bad S (s ++ endStr k) _ hlist (by omega) i hi wr HBR.out)
      have hkj2 : k + 1 ≤ j := by
        rcases Nat.lt_or_ge k j with h | h
        · exact h
        · have e : k = j := by omega
          exact absurd (e ▸ HGJ.out) hok
      clear hok hlist hsz2 hlen hi
      generalize endStr k = es at *
      go_wp2_with fail
      refine HC.out.mono ?_
      rintro e w1 ⟨v, b, rfl, he, b1, hB1⟩
      clear hB1 he
      go_wp2_with fail
      go_roundw
      case rel => exact ⟨k + 1, j, hkj2, hj, by go_num, HGJ.out, hbel.trans (b1.mono hbel.size)⟩
      case measure => simp [intOf]; omega
end Go.Proofs.YtobnlnkmonaohaaDoor
