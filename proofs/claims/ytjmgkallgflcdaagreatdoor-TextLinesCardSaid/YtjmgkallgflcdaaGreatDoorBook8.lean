/-
  cartularylaw01.Book over lists of texts: an empty book; three lists, kept and told apart.
-/
import Derived.Test.YtjmgkallgflcdaaGreatDoorBook7
namespace Go.Proofs.YtjmgkallgflcdaaGreatDoor
open Go.RowKit

def bookRow : Array Value := #[.int .i64 0, .slice none 0 0, .slice none 0 0, .slice none 0 0, .slice none 0 0, .slice none 0 0, .slice none 0 0, .slice none 0 0, .slice none 0 0, .slice none 0 0, .slice none 0 0, .slice none 0 0, .slice none 0 0, .slice none 0 0, .slice none 0 0, .slice none 0 0, .slice none 0 0]
theorem keep_start (w0 w : World) (V : Nat → Value) (h : Below w0.heap.size w0 w) : KeepS w0 (w.alloc (.cells bookRow 64)) w.heap.size 0 (.slice none 0 0) V := by
  have hrow : (w.alloc (.cells bookRow 64)).heap[w.heap.size]? = some (.cells bookRow 64 (0, 0)) := heap_alloc_new w _
  refine ⟨h.alloc h.size _, ?_, ?_, fun j h1 h2 h3 => ?_, fun j => frozen_row hrow j, ⟨h.size, by simp⟩, World.ownsRow_nil _ _ _ _⟩
  · rw [cell_of_row _ _ 0 _ _ _ hrow]; rfl
  · rw [cell_of_row _ _ 3 _ _ _ hrow]; rfl
  · rw [cell_of_row _ _ j _ _ _ hrow]
    have : j = 1 ∨ j = 2 ∨ j = 4 ∨ j = 5 ∨ j = 6 ∨ j = 7 ∨ j = 8 ∨ j = 9 ∨ j = 10 ∨ j = 11 ∨ j = 12 ∨ j = 13 ∨ j = 14 ∨ j = 15 ∨ j = 16 := by omega
    rcases this with rfl | rfl | rfl | rfl | rfl | rfl | rfl | rfl | rfl | rfl | rfl | rfl | rfl | rfl | rfl <;> rfl
theorem KeepS.weaken {w0 w1 w : World} {kb m : Nat} {tv : Value} {V : Nat → Value} (h : KeepS w1 w kb m tv V) (hb : Below w0.heap.size w0 w1) : KeepS w0 w kb m tv V :=
  ⟨below_trans hb h.bel, h.n, h.tx, h.nl, h.fz, ⟨Nat.le_trans hb.size h.lt.1, h.lt.2⟩, h.own⟩
/-- A list of texts in memory of its own as a row that nobody else holds. -/
theorem TextsAt.own {B : Nat} {w : World} {v : Value} {L : List (List UInt8)} (h : TextsAt B w v L) (hL : L.length ≤ 1048576) : w.ownsRow B 9 1 v L.length (L.map fun l => Value.string ⟨l.toArray⟩) := by
  refine ⟨by simp, ?_⟩
  rcases h with ⟨rfl, rfl⟩ | ⟨b, h1, rfl, h3⟩
  · exact .inl ⟨rfl, rfl⟩
  · refine .inr ⟨b, L.length, _, rfl, h1, h3, Nat.le_refl _, by unfold maxLen; omega, by simp, ?_⟩
    rw [List.take_of_length_le (by simp)]
theorem TextsAt.block {B : Nat} {w : World} {v : Value} {L : List (List UInt8)} (h : TextsAt B w v L) (g : Nat) (hg : v.ownBlock = some g) : B ≤ g ∧ g < w.heap.size := by
  rcases h with ⟨rfl, _⟩ | ⟨b, h1, rfl, h3⟩
  · cases hg
  · obtain rfl : b = g := by injection hg
    exact ⟨h1, lt_of_heap h3⟩
theorem TextsAt.slice {B : Nat} {w : World} {v : Value} {L : List (List UInt8)} (h : TextsAt B w v L) : ∃ ao n c, v = .slice ao n c := by
  rcases h with ⟨rfl, _⟩ | ⟨b, h1, rfl, h3⟩
  · exact ⟨_, _, _, rfl⟩
  · exact ⟨_, _, _, rfl⟩
/-- Three values by their numbers. -/
def V3 (va vb vc : Value) (i : Nat) : Value := if i = 0 then va else if i = 1 then vb else vc
def N3 (a b c : Nat) (i : Nat) : Nat := if i = 0 then a else if i = 1 then b else c
def X3 (a b c : List Value) (i : Nat) : List Value := if i = 0 then a else if i = 1 then b else c
theorem apart3_any (w0 w : World) (kb : Nat) (tv va vb vc : Value) (na nb nc : Nat) (xa xb xc : List Value) (hS : KeepS w0 w kb 3 tv (V3 va vb vc))
    (ha : w.ownsRow w0.heap.size 9 1 va na xa) (hb : w.ownsRow w0.heap.size 9 1 vb nb xb) (hc : w.ownsRow w0.heap.size 9 1 vc nc xc)
    (ka : ∀ g, va.ownBlock = some g → g < kb ∧ vb.ownBlock ≠ some g ∧ vc.ownBlock ≠ some g) (kb' : ∀ g, vb.ownBlock = some g → g < kb ∧ vc.ownBlock ≠ some g) (kc : ∀ g, vc.ownBlock = some g → g < kb)
    (la : na ≤ 1048576) (lb : nb ≤ 1048576) (lc : nc ≤ 1048576) (htab : Tab w0) :
    Calls Tryz.prog 18 #[.pointer (some ⟨kb, 0, none⟩)] w fun e w' => e = .returned (.bool true) ∧ Below w0.heap.size w0 w' := by
  refine apart_any w0 w kb 3 tv (V3 va vb vc) (N3 na nb nc) (X3 xa xb xc) hS (by decide) (by decide) (fun i hi => ?_) (fun i hi g hg => ?_) (fun i hi => ?_) htab
  · have : i = 0 ∨ i = 1 ∨ i = 2 := by omega
    rcases this with rfl | rfl | rfl
    · exact ha
    · exact hb
    · exact hc
  · have hi3 : i = 0 ∨ i = 1 ∨ i = 2 := by omega
    rcases hi3 with rfl | rfl | rfl
    · refine ⟨(ka g hg).1, fun j hj hn => ?_⟩
      have hj3 : j = 1 ∨ j = 2 := by omega
      rcases hj3 with rfl | rfl
      · exact (ka g hg).2.1
      · exact (ka g hg).2.2
    · refine ⟨(kb' g hg).1, fun j hj hn => ?_⟩
      have hj3 : j = 0 ∨ j = 2 := by omega
      rcases hj3 with rfl | rfl
      · exact fun e => (ka g e).2.1 hg
      · exact (kb' g hg).2
    · refine ⟨kc g hg, fun j hj hn => ?_⟩
      have hj3 : j = 0 ∨ j = 1 := by omega
      rcases hj3 with rfl | rfl
      · exact fun e => (ka g e).2.2 hg
      · exact fun e => (kb' g e).2 hg
  · have hi3 : i = 0 ∨ i = 1 ∨ i = 2 := by omega
    rcases hi3 with rfl | rfl | rfl
    · exact la
    · exact lb
    · exact lc
theorem keep0_any (w0 w : World) (kb : Nat) (tv va vb vc : Value) (hS : KeepS w0 w kb 0 tv (V3 va vb vc)) (hv : ∃ ao n c, va = .slice ao n c) :
    Calls Tryz.prog 22 #[.pointer (some ⟨kb, 0, none⟩), va] w fun e w' => e = .returned (.tuple #[]) ∧ ∃ tv', KeepS w0 w' kb 1 tv' (V3 va vb vc) :=
  textsKeep_any w0 w kb 0 tv (V3 va vb vc) hS hv (by decide)
theorem keep1_any (w0 w : World) (kb : Nat) (tv va vb vc : Value) (hS : KeepS w0 w kb 1 tv (V3 va vb vc)) (hv : ∃ ao n c, vb = .slice ao n c) :
    Calls Tryz.prog 22 #[.pointer (some ⟨kb, 0, none⟩), vb] w fun e w' => e = .returned (.tuple #[]) ∧ ∃ tv', KeepS w0 w' kb 2 tv' (V3 va vb vc) :=
  textsKeep_any w0 w kb 1 tv (V3 va vb vc) hS hv (by decide)
theorem keep2_any (w0 w : World) (kb : Nat) (tv va vb vc : Value) (hS : KeepS w0 w kb 2 tv (V3 va vb vc)) (hv : ∃ ao n c, vc = .slice ao n c) :
    Calls Tryz.prog 22 #[.pointer (some ⟨kb, 0, none⟩), vc] w fun e w' => e = .returned (.tuple #[]) ∧ ∃ tv', KeepS w0 w' kb 3 tv' (V3 va vb vc) :=
  textsKeep_any w0 w kb 2 tv (V3 va vb vc) hS hv (by decide)
end Go.Proofs.YtjmgkallgflcdaaGreatDoor
