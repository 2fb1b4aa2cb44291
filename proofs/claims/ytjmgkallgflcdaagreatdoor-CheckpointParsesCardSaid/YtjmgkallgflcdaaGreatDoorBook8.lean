/-
  cartularylaw01.Book.Apart by its contract, where the book holds lists of texts alone (printed by wip/genapart.py). cartularylaw01.Book over lists of texts: an empty book; three lists, kept and told apart.
-/
import Derived.Test.YtjmgkallgflcdaaGreatDoorBookE
import Derived.Test.YtjmgkallgflcdaaGreatDoorBook5
import Derived.Test.YtjmgkallgflcdaaGreatDoorBook6
namespace Go.Proofs.YtjmgkallgflcdaaGreatDoor
open Go.RowKit

theorem heldCells_len (V : Nat → Value) : ∀ m, (heldCells V m).length = 3 * m
  | 0 => rfl
  | m + 1 => by rw [heldCells_succ, List.length_append, heldCells_len V m]; simp; omega
theorem heldCells_at (V : Nat → Value) : ∀ (m i : Nat), i < m → (heldCells V m)[i * 3]? = some (V i) ∧ (heldCells V m)[i * 3 + 1]? = some (.slice none 0 0) ∧ (heldCells V m)[i * 3 + 2]? = some (.int .i64 ((i : Int) + 1))
  | m + 1, i, hi => by
    have hl := heldCells_len V m
    rw [heldCells_succ]
    by_cases h : i < m
    · rw [List.getElem?_append_left (by omega), List.getElem?_append_left (by omega), List.getElem?_append_left (by omega)]
      exact heldCells_at V m i h
    · obtain rfl : i = m := by omega
      rw [List.getElem?_append_right (by omega), List.getElem?_append_right (by omega), List.getElem?_append_right (by omega), hl, show i * 3 - 3 * i = 0 by omega, show i * 3 + 1 - 3 * i = 1 by omega, show i * 3 + 2 - 3 * i = 2 by omega]
      exact ⟨rfl, rfl, rfl⟩
theorem grow_of_fill {w0 w : World} {B kb tb cap m : Nat} {V : Nat → Value} {len : Nat → Nat} (h : FillS w0 B w kb tb cap m V (fun _ => .slice none 0 0) len (marks len)) : GrowS w0 B w kb tb cap m V (fun _ => .slice none 0 0) len 0 0 where
  bel := h.bel
  bs := h.bs
  fz := h.bs.fz
  lt := h.bs.lt
  uf := fun _ _ => ⟨_, _, _, rfl⟩
  vlt := fun i hi g hg => ((h.own i hi).lt g hg).2
  rd := fun i hi g t hg ht => by
    have e := (h.own i hi).cells (g := g) hg t (markV i) (by unfold marks; rw [List.getElem?_eq_getElem (by rw [List.length_replicate]; exact ht)]; simp)
    have ha : (⟨g, 0, none⟩ : Addr).add t = ⟨g, t, none⟩ := by simp [Addr.add]; intro h; exact h.symm
    rwa [ha] at e
  own := fun i _ hi => h.own i hi
  lng := fun i hi => by omega

set_option maxHeartbeats 4000000 in
set_option maxRecDepth 100000 in
theorem apart_any (w0 w : World) (kb m : Nat) (tv : Value) (V : Nat → Value) (len : Nat → Nat) (X : Nat → List Value) (hS : KeepS w0 w kb m tv V) (hm0 : 0 < m) (hm : m ≤ 1000) (hown : ∀ i, i < m → w.ownsRow w0.heap.size 9 1 (V i) (len i) (X i))
    (hsepV : ∀ i, i < m → ∀ g, (V i).ownBlock = some g → g < kb ∧ ∀ j, j < m → j ≠ i → (V j).ownBlock ≠ some g) (hlen : ∀ j, j < m → len j ≤ 1048576) (htab : Tab w0) :
    Calls Tryz.prog 18 #[.pointer (some ⟨kb, 0, none⟩)] w fun e w' => e = .returned (.bool true) ∧ Below w0.heap.size w0 w' := by
  have hot : w.ownsRow (kb + 1) 126 3 tv m (heldCells V m) := hS.own
  rcases hot.2 with ⟨_, h⟩ | ⟨tb, cap, cur, rfl, hkt, hth, _⟩
  · omega
  · have hbs : BookS w kb tb cap m V (fun _ => .slice none 0 0) := by
      refine ⟨hS.tx, fun i hi => ?_, hS.nl, fun j => hot.frozenAt j, hS.lt.2, lt_of_heap hth⟩
      obtain ⟨a, b, c⟩ := heldCells_at V m i hi
      rw [hot.cellAt _ (by omega), hot.cellAt _ (by omega), hot.cellAt _ (by omega)]
      exact ⟨a, b, c⟩
    have hF : FillS w0 w0.heap.size w kb tb cap m V (fun _ => .slice none 0 0) len X := ⟨hS.bel, hbs, hown⟩
    have hsep : Sep kb tb m V := fun i hi g hg => by
      obtain ⟨a, b⟩ := hsepV i hi g hg
      exact ⟨by omega, by omega, b⟩
    have hVf : ∀ i, i < m → ∃ ao c, V i = .slice ao (len i) c ∧ (0 < len i → ∃ g, ao = some ⟨g, 0, none⟩) := fun i hi => by
      rcases (hown i hi).2 with ⟨h, hn⟩ | ⟨g, c, cur, h, _⟩
      · exact ⟨none, 0, by rw [h, hn], fun h => by omega⟩
      · exact ⟨_, _, h, fun _ => ⟨g, rfl⟩⟩
    have hk0 := hS.lt.1
    have HF := Lib.hid hF
    have HSEP := Lib.hid hsep
    have HVF := Lib.hid hVf
    have HLEN := Lib.hid hlen
    have HTAB := Lib.hid htab
    have NL0 := Lib.hid hbs.nl
    clear hF hsep hVf hlen htab hbs hown hsepV hS hot hth
    go_enter Tryz.func18, Tryz.ntmps18
    go_wp2_with (first | (go_at_call 45; refine (fillInt_none _ kb (NL0.out 1 (by decide) (by decide) (by decide))).mono ?_; rintro e _ ⟨rfl, rfl⟩) | (go_at_call 46; refine (fillByte_none _ kb (NL0.out 2 (by decide) (by decide) (by decide))).mono ?_; rintro e _ ⟨rfl, rfl⟩))
    refine (fillText_any w0 w w0.heap.size kb tb cap m V (fun _ => .slice none 0 0) len X HF.out (Nat.le_refl _) HSEP.out (fun _ _ => ⟨_, _, _, rfl⟩) HLEN.out hm HTAB.out).mono ?_
    rintro e w1 ⟨rfl, hF1⟩
    have NL1 := Lib.hid hF1.bs.nl
    have HG1 := Lib.hid (grow_of_fill hF1)
    clear hF1
    go_wp2_with (first | (go_at_call 48; refine (fillNumber_none _ kb (NL1.out 4 (by decide) (by decide) (by decide))).mono ?_; rintro e _ ⟨rfl, rfl⟩) | (go_at_call 49; refine (fillHash_none _ kb (NL1.out 5 (by decide) (by decide) (by decide))).mono ?_; rintro e _ ⟨rfl, rfl⟩) | (go_at_call 50; refine (fillCoord_none _ kb (NL1.out 6 (by decide) (by decide) (by decide))).mono ?_; rintro e _ ⟨rfl, rfl⟩) | (go_at_call 51; refine (fillSpan_none _ kb (NL1.out 7 (by decide) (by decide) (by decide))).mono ?_; rintro e _ ⟨rfl, rfl⟩) | (go_at_call 52; refine (fillNode_none _ kb (NL1.out 8 (by decide) (by decide) (by decide))).mono ?_; rintro e _ ⟨rfl, rfl⟩) | (go_at_call 53; refine (fillTile_none _ kb (NL1.out 9 (by decide) (by decide) (by decide))).mono ?_; rintro e _ ⟨rfl, rfl⟩) | (go_at_call 54; refine (fillEntry_none _ kb (NL1.out 10 (by decide) (by decide) (by decide))).mono ?_; rintro e _ ⟨rfl, rfl⟩) | (go_at_call 55; refine (fillFound_none _ kb (NL1.out 11 (by decide) (by decide) (by decide))).mono ?_; rintro e _ ⟨rfl, rfl⟩) | (go_at_call 56; refine (fillKnown_none _ kb (NL1.out 12 (by decide) (by decide) (by decide))).mono ?_; rintro e _ ⟨rfl, rfl⟩) | (go_at_call 57; refine (fillVote_none _ kb (NL1.out 13 (by decide) (by decide) (by decide))).mono ?_; rintro e _ ⟨rfl, rfl⟩) | (go_at_call 58; refine (fillPart_none _ kb (NL1.out 14 (by decide) (by decide) (by decide))).mono ?_; rintro e _ ⟨rfl, rfl⟩) | (go_at_call 59; refine (fillHashList_none _ kb (NL1.out 15 (by decide) (by decide) (by decide))).mono ?_; rintro e _ ⟨rfl, rfl⟩) | (go_at_call 60; refine (fillQuery_none _ kb (NL1.out 16 (by decide) (by decide) (by decide))).mono ?_; rintro e _ ⟨rfl, rfl⟩) | (go_at_call 61; refine (growInt_none _ kb (NL1.out 1 (by decide) (by decide) (by decide))).mono ?_; rintro e _ ⟨rfl, rfl⟩) | (go_at_call 62; refine (growByte_none _ kb (NL1.out 2 (by decide) (by decide) (by decide))).mono ?_; rintro e _ ⟨rfl, rfl⟩))
    refine (growText_any w0 w1 w0.heap.size kb tb cap m V (fun _ => .slice none 0 0) len HG1.out (Nat.le_refl _) HG1.out.bel.size (by omega) (by omega) HSEP.out HLEN.out hm HTAB.out).mono ?_
    rintro e w2 ⟨rfl, U, hG2⟩
    have NL2 := Lib.hid hG2.bs.nl
    have HG2 := Lib.hid hG2
    clear hG2
    go_wp2_with (first | (go_at_call 64; refine (growNumber_none _ kb (NL2.out 4 (by decide) (by decide) (by decide))).mono ?_; rintro e _ ⟨rfl, rfl⟩) | (go_at_call 65; refine (growHash_none _ kb (NL2.out 5 (by decide) (by decide) (by decide))).mono ?_; rintro e _ ⟨rfl, rfl⟩) | (go_at_call 66; refine (growCoord_none _ kb (NL2.out 6 (by decide) (by decide) (by decide))).mono ?_; rintro e _ ⟨rfl, rfl⟩) | (go_at_call 67; refine (growSpan_none _ kb (NL2.out 7 (by decide) (by decide) (by decide))).mono ?_; rintro e _ ⟨rfl, rfl⟩) | (go_at_call 68; refine (growNode_none _ kb (NL2.out 8 (by decide) (by decide) (by decide))).mono ?_; rintro e _ ⟨rfl, rfl⟩) | (go_at_call 69; refine (growTile_none _ kb (NL2.out 9 (by decide) (by decide) (by decide))).mono ?_; rintro e _ ⟨rfl, rfl⟩) | (go_at_call 70; refine (growEntry_none _ kb (NL2.out 10 (by decide) (by decide) (by decide))).mono ?_; rintro e _ ⟨rfl, rfl⟩) | (go_at_call 71; refine (growFound_none _ kb (NL2.out 11 (by decide) (by decide) (by decide))).mono ?_; rintro e _ ⟨rfl, rfl⟩) | (go_at_call 72; refine (growKnown_none _ kb (NL2.out 12 (by decide) (by decide) (by decide))).mono ?_; rintro e _ ⟨rfl, rfl⟩) | (go_at_call 73; refine (growVote_none _ kb (NL2.out 13 (by decide) (by decide) (by decide))).mono ?_; rintro e _ ⟨rfl, rfl⟩) | (go_at_call 74; refine (growPart_none _ kb (NL2.out 14 (by decide) (by decide) (by decide))).mono ?_; rintro e _ ⟨rfl, rfl⟩) | (go_at_call 75; refine (growHashList_none _ kb (NL2.out 15 (by decide) (by decide) (by decide))).mono ?_; rintro e _ ⟨rfl, rfl⟩) | (go_at_call 76; refine (growQuery_none _ kb (NL2.out 16 (by decide) (by decide) (by decide))).mono ?_; rintro e _ ⟨rfl, rfl⟩) | (go_at_call 77; refine (lookInt_none _ kb (NL2.out 1 (by decide) (by decide) (by decide))).mono ?_; rintro e _ ⟨rfl, rfl⟩) | (go_at_call 78; refine (lookByte_none _ kb (NL2.out 2 (by decide) (by decide) (by decide))).mono ?_; rintro e _ ⟨rfl, rfl⟩))
    refine (lookText_any w0 w2 w0.heap.size kb tb cap m V U len HG2.out HVF.out HLEN.out hm HTAB.out).mono ?_
    rintro e w3 ⟨rfl, b3⟩
    have HB3 := Lib.hid (below_trans HG2.out.bel b3)
    have NL3 := Lib.hid (fun j h1 h2 h3 => below_cell b3 (NL2.out j h1 h2 h3))
    clear b3
    go_wp2_with (first | (go_at_call 80; refine (lookNumber_none _ kb (NL3.out 4 (by decide) (by decide) (by decide))).mono ?_; rintro e _ ⟨rfl, rfl⟩) | (go_at_call 81; refine (lookHash_none _ kb (NL3.out 5 (by decide) (by decide) (by decide))).mono ?_; rintro e _ ⟨rfl, rfl⟩) | (go_at_call 82; refine (lookCoord_none _ kb (NL3.out 6 (by decide) (by decide) (by decide))).mono ?_; rintro e _ ⟨rfl, rfl⟩) | (go_at_call 83; refine (lookSpan_none _ kb (NL3.out 7 (by decide) (by decide) (by decide))).mono ?_; rintro e _ ⟨rfl, rfl⟩) | (go_at_call 84; refine (lookNode_none _ kb (NL3.out 8 (by decide) (by decide) (by decide))).mono ?_; rintro e _ ⟨rfl, rfl⟩) | (go_at_call 85; refine (lookTile_none _ kb (NL3.out 9 (by decide) (by decide) (by decide))).mono ?_; rintro e _ ⟨rfl, rfl⟩) | (go_at_call 86; refine (lookEntry_none _ kb (NL3.out 10 (by decide) (by decide) (by decide))).mono ?_; rintro e _ ⟨rfl, rfl⟩) | (go_at_call 87; refine (lookFound_none _ kb (NL3.out 11 (by decide) (by decide) (by decide))).mono ?_; rintro e _ ⟨rfl, rfl⟩) | (go_at_call 88; refine (lookKnown_none _ kb (NL3.out 12 (by decide) (by decide) (by decide))).mono ?_; rintro e _ ⟨rfl, rfl⟩) | (go_at_call 89; refine (lookVote_none _ kb (NL3.out 13 (by decide) (by decide) (by decide))).mono ?_; rintro e _ ⟨rfl, rfl⟩) | (go_at_call 90; refine (lookPart_none _ kb (NL3.out 14 (by decide) (by decide) (by decide))).mono ?_; rintro e _ ⟨rfl, rfl⟩) | (go_at_call 91; refine (lookHashList_none _ kb (NL3.out 15 (by decide) (by decide) (by decide))).mono ?_; rintro e _ ⟨rfl, rfl⟩) | (go_at_call 92; refine (lookQuery_none _ kb (NL3.out 16 (by decide) (by decide) (by decide))).mono ?_; rintro e _ ⟨rfl, rfl⟩))
    go_ret
    exact ⟨rfl, HB3.out⟩
end Go.Proofs.YtjmgkallgflcdaaGreatDoor

namespace Go.Proofs.YtjmgkallgflcdaaGreatDoor
open Go.RowKit

def bookRow : Array Value := #[.int .i64 0, .slice none 0 0, .slice none 0 0, .slice none 0 0, .slice none 0 0, .slice none 0 0, .slice none 0 0, .slice none 0 0, .slice none 0 0, .slice none 0 0, .slice none 0 0, .slice none 0 0, .slice none 0 0, .slice none 0 0, .slice none 0 0, .slice none 0 0, .slice none 0 0]
theorem keep_start (w0 w : World) (V : Nat → Value) (h : Below w0.heap.size w0 w) : KeepS w0 (w.alloc (.cells bookRow 64)) w.heap.size 0 (.slice none 0 0) V := by
  have hrow : (w.alloc (.cells bookRow 64)).heap[w.heap.size]? = some (.cells bookRow 64 (0, 0)) := heap_alloc_new w _
  refine ⟨h.alloc h.size _, ?_, ?_, fun j h1 h2 h3 => ?_, fun j => frozen_row hrow j, ⟨h.size, by simp⟩, World.ownsRow_nil _ _ _ _⟩
  · rw [cell_of_row _ _ 0 _ _ _ hrow]; rfl
  · rw [cell_of_row _ _ 3 _ _ _ hrow]; rfl
  · rw [cell_of_row _ _ j _ _ _ hrow]
    have : j = 1 ∨ j = 2 ∨ j = 4 ∨ j = 5 ∨ j = 6 ∨ j = 7 ∨ j = 8 ∨ j = 9 ∨ j = 10 ∨ j = 11 ∨ j = 12 ∨ j = 13 ∨ j = 14 ∨ j = 15 ∨ j = 16 := by omega
    rcases this with rfl | rfl | rfl | rfl | rfl | rfl | rfl | rfl | rfl | rfl | rfl | rfl | rfl | rfl | rfl <;> rfl
theorem KeepS.weaken {w0 w1 w : World} {kb m : Nat} {tv : Value} {V : Nat → Value} (h : KeepS w1 w kb m tv V) (hb : Below w0.heap.size w0 w1) : KeepS w0 w kb m tv V :=
  ⟨below_trans hb h.bel, h.n, h.tx, h.nl, h.fz, ⟨Nat.le_trans hb.size h.lt.1, h.lt.2⟩, h.own⟩
/-- A list of texts in memory of its own as a row that nobody else holds. -/
theorem TextsAt.own {B : Nat} {w : World} {v : Value} {L : List (List UInt8)} (h : TextsAt B w v L) (hL : L.length ≤ 1048576) : w.ownsRow B 9 1 v L.length (L.map fun l => Value.string ⟨l.toArray⟩) := by
  refine ⟨by simp, ?_⟩
  rcases h with ⟨rfl, rfl⟩ | ⟨b, h1, rfl, h3⟩
  · exact .inl ⟨rfl, rfl⟩
  · refine .inr ⟨b, L.length, _, rfl, h1, h3, Nat.le_refl _, by unfold maxLen; omega, by simp, ?_⟩
    rw [List.take_of_length_le (by simp)]
theorem TextsAt.block {B : Nat} {w : World} {v : Value} {L : List (List UInt8)} (h : TextsAt B w v L) (g : Nat) (hg : v.ownBlock = some g) : B ≤ g ∧ g < w.heap.size := by
  rcases h with ⟨rfl, _⟩ | ⟨b, h1, rfl, h3⟩
  · cases hg
  · obtain rfl : b = g := by injection hg
    exact ⟨h1, lt_of_heap h3⟩
theorem TextsAt.slice {B : Nat} {w : World} {v : Value} {L : List (List UInt8)} (h : TextsAt B w v L) : ∃ ao n c, v = .slice ao n c := by
  rcases h with ⟨rfl, _⟩ | ⟨b, h1, rfl, h3⟩
  · exact ⟨_, _, _, rfl⟩
  · exact ⟨_, _, _, rfl⟩
/-- Three values by their numbers. -/
def V3 (va vb vc : Value) (i : Nat) : Value := if i = 0 then va else if i = 1 then vb else vc
def N3 (a b c : Nat) (i : Nat) : Nat := if i = 0 then a else if i = 1 then b else c
def X3 (a b c : List Value) (i : Nat) : List Value := if i = 0 then a else if i = 1 then b else c
theorem apart3_any (w0 w : World) (kb : Nat) (tv va vb vc : Value) (na nb nc : Nat) (xa xb xc : List Value) (hS : KeepS w0 w kb 3 tv (V3 va vb vc))
    (ha : w.ownsRow w0.heap.size 9 1 va na xa) (hb : w.ownsRow w0.heap.size 9 1 vb nb xb) (hc : w.ownsRow w0.heap.size 9 1 vc nc xc)
    (ka : ∀ g, va.ownBlock = some g → g < kb ∧ vb.ownBlock ≠ some g ∧ vc.ownBlock ≠ some g) (kb' : ∀ g, vb.ownBlock = some g → g < kb ∧ vc.ownBlock ≠ some g) (kc : ∀ g, vc.ownBlock = some g → g < kb)
    (la : na ≤ 1048576) (lb : nb ≤ 1048576) (lc : nc ≤ 1048576) (htab : Tab w0) :
    Calls Tryz.prog 18 #[.pointer (some ⟨kb, 0, none⟩)] w fun e w' => e = .returned (.bool true) ∧ Below w0.heap.size w0 w' := by
  refine apart_any w0 w kb 3 tv (V3 va vb vc) (N3 na nb nc) (X3 xa xb xc) hS (by decide) (by decide) (fun i hi => ?_) (fun i hi g hg => ?_) (fun i hi => ?_) htab
  · have : i = 0 ∨ i = 1 ∨ i = 2 := by omega
    rcases this with rfl | rfl | rfl
    · exact ha
    · exact hb
    · exact hc
  · have hi3 : i = 0 ∨ i = 1 ∨ i = 2 := by omega
    rcases hi3 with rfl | rfl | rfl
    · refine ⟨(ka g hg).1, fun j hj hn => ?_⟩
      have hj3 : j = 1 ∨ j = 2 := by omega
      rcases hj3 with rfl | rfl
      · exact (ka g hg).2.1
      · exact (ka g hg).2.2
    · refine ⟨(kb' g hg).1, fun j hj hn => ?_⟩
      have hj3 : j = 0 ∨ j = 2 := by omega
      rcases hj3 with rfl | rfl
      · exact fun e => (ka g e).2.1 hg
      · exact (kb' g hg).2
    · refine ⟨kc g hg, fun j hj hn => ?_⟩
      have hj3 : j = 0 ∨ j = 1 := by omega
      rcases hj3 with rfl | rfl
      · exact fun e => (ka g e).2.2 hg
      · exact fun e => (kb' g e).2 hg
  · have hi3 : i = 0 ∨ i = 1 ∨ i = 2 := by omega
    rcases hi3 with rfl | rfl | rfl
    · exact la
    · exact lb
    · exact lc
theorem keep0_any (w0 w : World) (kb : Nat) (tv va vb vc : Value) (hS : KeepS w0 w kb 0 tv (V3 va vb vc)) (hv : ∃ ao n c, va = .slice ao n c) :
    Calls Tryz.prog 22 #[.pointer (some ⟨kb, 0, none⟩), va] w fun e w' => e = .returned (.tuple #[]) ∧ ∃ tv', KeepS w0 w' kb 1 tv' (V3 va vb vc) :=
  textsKeep_any w0 w kb 0 tv (V3 va vb vc) hS hv (by decide)
theorem keep1_any (w0 w : World) (kb : Nat) (tv va vb vc : Value) (hS : KeepS w0 w kb 1 tv (V3 va vb vc)) (hv : ∃ ao n c, vb = .slice ao n c) :
    Calls Tryz.prog 22 #[.pointer (some ⟨kb, 0, none⟩), vb] w fun e w' => e = .returned (.tuple #[]) ∧ ∃ tv', KeepS w0 w' kb 2 tv' (V3 va vb vc) :=
  textsKeep_any w0 w kb 1 tv (V3 va vb vc) hS hv (by decide)
theorem keep2_any (w0 w : World) (kb : Nat) (tv va vb vc : Value) (hS : KeepS w0 w kb 2 tv (V3 va vb vc)) (hv : ∃ ao n c, vc = .slice ao n c) :
    Calls Tryz.prog 22 #[.pointer (some ⟨kb, 0, none⟩), vc] w fun e w' => e = .returned (.tuple #[]) ∧ ∃ tv', KeepS w0 w' kb 3 tv' (V3 va vb vc) :=
  textsKeep_any w0 w kb 2 tv (V3 va vb vc) hS hv (by decide)
end Go.Proofs.YtjmgkallgflcdaaGreatDoor
