/-
  cartularylaw01.Book.Apart by its contract, where the book holds lists of tiles alone; two lists (printed by wip/genbookg.py).
-/
import Derived.Test.YtlahdjdbbfjadaaGreatDoorBookE
import Derived.Test.YtlahdjdbbfjadaaGreatDoorBookLTi
import Derived.Test.YtlahdjdbbfjadaaGreatDoorBookKTi
namespace Go.Proofs.YtlahdjdbbfjadaaGreatDoor
open Go.RowKit

theorem heldCells_lenTi (V : Nat → Value) : ∀ m, (heldCellsTi V m).length = 3 * m
  | 0 => rfl
  | m + 1 => by rw [heldCells_succTi, List.length_append, heldCells_lenTi V m]; simp; omega
theorem heldCells_atTi (V : Nat → Value) : ∀ (m i : Nat), i < m → (heldCellsTi V m)[i * 3]? = some (V i) ∧ (heldCellsTi V m)[i * 3 + 1]? = some (.slice none 0 0) ∧ (heldCellsTi V m)[i * 3 + 2]? = some (.int .i64 ((i : Int) + 1))
  | m + 1, i, hi => by
    have hl := heldCells_lenTi V m
    rw [heldCells_succTi]
    by_cases h : i < m
    · rw [List.getElem?_append_left (by omega), List.getElem?_append_left (by omega), List.getElem?_append_left (by omega)]
      exact heldCells_atTi V m i h
    · obtain rfl : i = m := by omega
      rw [List.getElem?_append_right (by omega), List.getElem?_append_right (by omega), List.getElem?_append_right (by omega), hl, show i * 3 - 3 * i = 0 by omega, show i * 3 + 1 - 3 * i = 1 by omega, show i * 3 + 2 - 3 * i = 2 by omega]
      exact ⟨rfl, rfl, rfl⟩
set_option maxHeartbeats 4000000 in
set_option maxRecDepth 100000 in
theorem apart_anyTi (w0 w : World) (kb m : Nat) (tv : Value) (V : Nat → Value) (len : Nat → Nat) (X : Nat → List Value) (hS : KeepSTi w0 w kb m tv V) (hm0 : 0 < m) (hm : m ≤ 2) (hown : ∀ i, i < m → w.ownsRow w0.heap.size 93 3 (V i) (len i) (X i))
    (hsepV : ∀ i, i < m → ∀ g, (V i).ownBlock = some g → g < kb ∧ ∀ j, j < m → j ≠ i → (V j).ownBlock ≠ some g) (hlen : ∀ j, j < m → len j ≤ 1048576) :
    Calls Tryz.prog 17 #[.pointer (some ⟨kb, 0, none⟩)] w fun e w' => e = .returned (.bool true) ∧ Below w0.heap.size w0 w' := by
  have hot : w.ownsRow (kb + 1) 143 3 tv m (heldCellsTi V m) := hS.own
  rcases hot.2 with ⟨_, h⟩ | ⟨tb, cap, cur, rfl, hkt, hth, _⟩
  · omega
  · have hbs : BookSTi w kb tb cap m V (fun _ => .slice none 0 0) := by
      refine ⟨hS.tx, fun i hi => ?_, hS.nl, fun j => hot.frozenAt j, hS.lt.2, lt_of_heap hth⟩
      obtain ⟨a, b, c⟩ := heldCells_atTi V m i hi
      rw [hot.cellAt _ (by omega), hot.cellAt _ (by omega), hot.cellAt _ (by omega)]
      exact ⟨a, b, c⟩
    have hF : FillSTi w0 w0.heap.size w kb tb cap m V (fun _ => .slice none 0 0) len X := ⟨hS.bel, hbs, hown⟩
    have hsep : SepTi kb tb m V := fun i hi g hg => by
      obtain ⟨a, b⟩ := hsepV i hi g hg
      exact ⟨by omega, by omega, b⟩
    have hVf : ∀ i, i < m → ∃ ao c, V i = .slice ao (len i) c ∧ (0 < len i → ∃ g, ao = some ⟨g, 0, none⟩) := fun i hi => by
      rcases (hown i hi).2 with ⟨h, hn⟩ | ⟨g, c, cur, h, _⟩
      · exact ⟨none, 0, by rw [h, hn], fun h => by omega⟩
      · exact ⟨_, _, h, fun _ => ⟨g, rfl⟩⟩
    have hk0 := hS.lt.1
    have HF := Lib.hid hF
    have HSEP := Lib.hid hsep
    have HVF := Lib.hid hVf
    have HLEN := Lib.hid hlen
    have NL0 := Lib.hid hbs.nl
    clear hF hsep hVf hlen hbs hown hsepV hS hot hth
    go_enter Tryz.func17, Tryz.ntmps17
    go_wp2_with (first | (go_at_call 35; refine (fillInt_none _ kb (NL0.out 1 (by decide) (by decide) (by decide))).mono ?_; rintro e _ ⟨rfl, rfl⟩) | (go_at_call 36; refine (fillByte_none _ kb (NL0.out 2 (by decide) (by decide) (by decide))).mono ?_; rintro e _ ⟨rfl, rfl⟩) | (go_at_call 37; refine (fillText_none _ kb (NL0.out 3 (by decide) (by decide) (by decide))).mono ?_; rintro e _ ⟨rfl, rfl⟩) | (go_at_call 38; refine (fillNumber_none _ kb (NL0.out 4 (by decide) (by decide) (by decide))).mono ?_; rintro e _ ⟨rfl, rfl⟩) | (go_at_call 39; refine (fillHash_none _ kb (NL0.out 5 (by decide) (by decide) (by decide))).mono ?_; rintro e _ ⟨rfl, rfl⟩) | (go_at_call 40; refine (fillCoord_none _ kb (NL0.out 6 (by decide) (by decide) (by decide))).mono ?_; rintro e _ ⟨rfl, rfl⟩) | (go_at_call 41; refine (fillSpan_none _ kb (NL0.out 7 (by decide) (by decide) (by decide))).mono ?_; rintro e _ ⟨rfl, rfl⟩) | (go_at_call 42; refine (fillNode_none _ kb (NL0.out 8 (by decide) (by decide) (by decide))).mono ?_; rintro e _ ⟨rfl, rfl⟩))
    refine (fill_anyTi w0 w w0.heap.size kb tb cap m V (fun _ => .slice none 0 0) len X HF.out (Nat.le_refl _) HSEP.out (fun _ _ => ⟨_, _, _, rfl⟩) HLEN.out hm).mono ?_
    rintro e w1 ⟨rfl, hF1⟩
    have NL1 := Lib.hid hF1.bs.nl
    have HG1 := Lib.hid (grow_of_fillTi hF1)
    clear hF1
    go_wp2_with (first | (go_at_call 44; refine (fillEntry_none _ kb (NL1.out 10 (by decide) (by decide) (by decide))).mono ?_; rintro e _ ⟨rfl, rfl⟩) | (go_at_call 45; refine (fillFound_none _ kb (NL1.out 11 (by decide) (by decide) (by decide))).mono ?_; rintro e _ ⟨rfl, rfl⟩) | (go_at_call 46; refine (fillKnown_none _ kb (NL1.out 12 (by decide) (by decide) (by decide))).mono ?_; rintro e _ ⟨rfl, rfl⟩) | (go_at_call 47; refine (fillVote_none _ kb (NL1.out 13 (by decide) (by decide) (by decide))).mono ?_; rintro e _ ⟨rfl, rfl⟩) | (go_at_call 48; refine (fillPart_none _ kb (NL1.out 14 (by decide) (by decide) (by decide))).mono ?_; rintro e _ ⟨rfl, rfl⟩) | (go_at_call 49; refine (fillHashList_none _ kb (NL1.out 15 (by decide) (by decide) (by decide))).mono ?_; rintro e _ ⟨rfl, rfl⟩) | (go_at_call 50; refine (fillQuery_none _ kb (NL1.out 16 (by decide) (by decide) (by decide))).mono ?_; rintro e _ ⟨rfl, rfl⟩) | (go_at_call 51; refine (growInt_none _ kb (NL1.out 1 (by decide) (by decide) (by decide))).mono ?_; rintro e _ ⟨rfl, rfl⟩) | (go_at_call 52; refine (growByte_none _ kb (NL1.out 2 (by decide) (by decide) (by decide))).mono ?_; rintro e _ ⟨rfl, rfl⟩) | (go_at_call 53; refine (growText_none _ kb (NL1.out 3 (by decide) (by decide) (by decide))).mono ?_; rintro e _ ⟨rfl, rfl⟩) | (go_at_call 54; refine (growNumber_none _ kb (NL1.out 4 (by decide) (by decide) (by decide))).mono ?_; rintro e _ ⟨rfl, rfl⟩) | (go_at_call 55; refine (growHash_none _ kb (NL1.out 5 (by decide) (by decide) (by decide))).mono ?_; rintro e _ ⟨rfl, rfl⟩) | (go_at_call 56; refine (growCoord_none _ kb (NL1.out 6 (by decide) (by decide) (by decide))).mono ?_; rintro e _ ⟨rfl, rfl⟩) | (go_at_call 57; refine (growSpan_none _ kb (NL1.out 7 (by decide) (by decide) (by decide))).mono ?_; rintro e _ ⟨rfl, rfl⟩) | (go_at_call 58; refine (growNode_none _ kb (NL1.out 8 (by decide) (by decide) (by decide))).mono ?_; rintro e _ ⟨rfl, rfl⟩))
    refine (grow_anyTi w0 w1 w0.heap.size kb tb cap m V (fun _ => .slice none 0 0) len HG1.out (Nat.le_refl _) HG1.out.bel.size (by omega) (by omega) HSEP.out HLEN.out hm).mono ?_
    rintro e w2 ⟨rfl, U, hG2⟩
    have NL2 := Lib.hid hG2.bs.nl
    have HG2 := Lib.hid hG2
    clear hG2
    go_wp2_with (first | (go_at_call 60; refine (growEntry_none _ kb (NL2.out 10 (by decide) (by decide) (by decide))).mono ?_; rintro e _ ⟨rfl, rfl⟩) | (go_at_call 61; refine (growFound_none _ kb (NL2.out 11 (by decide) (by decide) (by decide))).mono ?_; rintro e _ ⟨rfl, rfl⟩) | (go_at_call 62; refine (growKnown_none _ kb (NL2.out 12 (by decide) (by decide) (by decide))).mono ?_; rintro e _ ⟨rfl, rfl⟩) | (go_at_call 63; refine (growVote_none _ kb (NL2.out 13 (by decide) (by decide) (by decide))).mono ?_; rintro e _ ⟨rfl, rfl⟩) | (go_at_call 64; refine (growPart_none _ kb (NL2.out 14 (by decide) (by decide) (by decide))).mono ?_; rintro e _ ⟨rfl, rfl⟩) | (go_at_call 65; refine (growHashList_none _ kb (NL2.out 15 (by decide) (by decide) (by decide))).mono ?_; rintro e _ ⟨rfl, rfl⟩) | (go_at_call 66; refine (growQuery_none _ kb (NL2.out 16 (by decide) (by decide) (by decide))).mono ?_; rintro e _ ⟨rfl, rfl⟩) | (go_at_call 67; refine (lookInt_none _ kb (NL2.out 1 (by decide) (by decide) (by decide))).mono ?_; rintro e _ ⟨rfl, rfl⟩) | (go_at_call 68; refine (lookByte_none _ kb (NL2.out 2 (by decide) (by decide) (by decide))).mono ?_; rintro e _ ⟨rfl, rfl⟩) | (go_at_call 69; refine (lookText_none _ kb (NL2.out 3 (by decide) (by decide) (by decide))).mono ?_; rintro e _ ⟨rfl, rfl⟩) | (go_at_call 70; refine (lookNumber_none _ kb (NL2.out 4 (by decide) (by decide) (by decide))).mono ?_; rintro e _ ⟨rfl, rfl⟩) | (go_at_call 71; refine (lookHash_none _ kb (NL2.out 5 (by decide) (by decide) (by decide))).mono ?_; rintro e _ ⟨rfl, rfl⟩) | (go_at_call 72; refine (lookCoord_none _ kb (NL2.out 6 (by decide) (by decide) (by decide))).mono ?_; rintro e _ ⟨rfl, rfl⟩) | (go_at_call 73; refine (lookSpan_none _ kb (NL2.out 7 (by decide) (by decide) (by decide))).mono ?_; rintro e _ ⟨rfl, rfl⟩) | (go_at_call 74; refine (lookNode_none _ kb (NL2.out 8 (by decide) (by decide) (by decide))).mono ?_; rintro e _ ⟨rfl, rfl⟩))
    refine (look_anyTi w0 w2 w0.heap.size kb tb cap m V U len HG2.out HVF.out HLEN.out hm).mono ?_
    rintro e w3 ⟨rfl, b3⟩
    have HB3 := Lib.hid (below_trans HG2.out.bel b3)
    have NL3 := Lib.hid (fun j h1 h2 h3 => below_cell b3 (NL2.out j h1 h2 h3))
    clear b3
    go_wp2_with (first | (go_at_call 76; refine (lookEntry_none _ kb (NL3.out 10 (by decide) (by decide) (by decide))).mono ?_; rintro e _ ⟨rfl, rfl⟩) | (go_at_call 77; refine (lookFound_none _ kb (NL3.out 11 (by decide) (by decide) (by decide))).mono ?_; rintro e _ ⟨rfl, rfl⟩) | (go_at_call 78; refine (lookKnown_none _ kb (NL3.out 12 (by decide) (by decide) (by decide))).mono ?_; rintro e _ ⟨rfl, rfl⟩) | (go_at_call 79; refine (lookVote_none _ kb (NL3.out 13 (by decide) (by decide) (by decide))).mono ?_; rintro e _ ⟨rfl, rfl⟩) | (go_at_call 80; refine (lookPart_none _ kb (NL3.out 14 (by decide) (by decide) (by decide))).mono ?_; rintro e _ ⟨rfl, rfl⟩) | (go_at_call 81; refine (lookHashList_none _ kb (NL3.out 15 (by decide) (by decide) (by decide))).mono ?_; rintro e _ ⟨rfl, rfl⟩) | (go_at_call 82; refine (lookQuery_none _ kb (NL3.out 16 (by decide) (by decide) (by decide))).mono ?_; rintro e _ ⟨rfl, rfl⟩))
    go_ret
    exact ⟨rfl, HB3.out⟩
def bookRowTi : Array Value := #[.int .i64 0, .slice none 0 0, .slice none 0 0, .slice none 0 0, .slice none 0 0, .slice none 0 0, .slice none 0 0, .slice none 0 0, .slice none 0 0, .slice none 0 0, .slice none 0 0, .slice none 0 0, .slice none 0 0, .slice none 0 0, .slice none 0 0, .slice none 0 0, .slice none 0 0]
theorem keep_startTi (w0 w : World) (V : Nat → Value) (h : Below w0.heap.size w0 w) : KeepSTi w0 (w.alloc (.cells bookRowTi 56)) w.heap.size 0 (.slice none 0 0) V := by
  have hrow : (w.alloc (.cells bookRowTi 56)).heap[w.heap.size]? = some (.cells bookRowTi 56 (0, 0)) := heap_alloc_new w _
  refine ⟨h.alloc h.size _, ?_, ?_, fun j h1 h2 h3 => ?_, fun j => frozen_row hrow j, ⟨h.size, by simp⟩, World.ownsRow_nil _ _ _ _⟩
  · rw [cell_of_row _ _ 0 _ _ _ hrow]; rfl
  · rw [cell_of_row _ _ 9 _ _ _ hrow]; rfl
  · rw [cell_of_row _ _ j _ _ _ hrow]
    have : j = 1 ∨ j = 2 ∨ j = 3 ∨ j = 4 ∨ j = 5 ∨ j = 6 ∨ j = 7 ∨ j = 8 ∨ j = 10 ∨ j = 11 ∨ j = 12 ∨ j = 13 ∨ j = 14 ∨ j = 15 ∨ j = 16 := by omega
    rcases this with rfl | rfl | rfl | rfl | rfl | rfl | rfl | rfl | rfl | rfl | rfl | rfl | rfl | rfl | rfl <;> rfl
theorem KeepSTi.weaken {w0 w1 w : World} {kb m : Nat} {tv : Value} {V : Nat → Value} (h : KeepSTi w1 w kb m tv V) (hb : Below w0.heap.size w0 w1) : KeepSTi w0 w kb m tv V :=
  ⟨below_trans hb h.bel, h.n, h.tx, h.nl, h.fz, ⟨Nat.le_trans hb.size h.lt.1, h.lt.2⟩, h.own⟩
/-- Two values by their numbers. -/
def V2Ti (va vb : Value) (i : Nat) : Value := if i = 0 then va else vb
def N2Ti (a b : Nat) (i : Nat) : Nat := if i = 0 then a else b
def X2Ti (a b : List Value) (i : Nat) : List Value := if i = 0 then a else b
theorem apart2_anyTi (w0 w : World) (kb : Nat) (tv va vb : Value) (na nb : Nat) (xa xb : List Value) (hS : KeepSTi w0 w kb 2 tv (V2Ti va vb))
    (ha : w.ownsRow w0.heap.size 93 3 va na xa) (hb : w.ownsRow w0.heap.size 93 3 vb nb xb)
    (ka : ∀ g, va.ownBlock = some g → g < kb ∧ vb.ownBlock ≠ some g) (kb' : ∀ g, vb.ownBlock = some g → g < kb ∧ va.ownBlock ≠ some g) (la : na ≤ 1048576) (lb : nb ≤ 1048576) :
    Calls Tryz.prog 17 #[.pointer (some ⟨kb, 0, none⟩)] w fun e w' => e = .returned (.bool true) ∧ Below w0.heap.size w0 w' := by
  refine apart_anyTi w0 w kb 2 tv (V2Ti va vb) (N2Ti na nb) (X2Ti xa xb) hS (by decide) (by decide) (fun i hi => ?_) (fun i hi g hg => ?_) (fun i hi => ?_)
  · rcases show i = 0 ∨ i = 1 by omega with rfl | rfl
    · exact ha
    · exact hb
  · rcases show i = 0 ∨ i = 1 by omega with rfl | rfl
    · refine ⟨(ka g hg).1, fun j hj hne => ?_⟩
      obtain rfl : j = 1 := by omega
      exact (ka g hg).2
    · refine ⟨(kb' g hg).1, fun j hj hne => ?_⟩
      obtain rfl : j = 0 := by omega
      exact (kb' g hg).2
  · rcases show i = 0 ∨ i = 1 by omega with rfl | rfl
    · exact la
    · exact lb
end Go.Proofs.YtlahdjdbbfjadaaGreatDoor
