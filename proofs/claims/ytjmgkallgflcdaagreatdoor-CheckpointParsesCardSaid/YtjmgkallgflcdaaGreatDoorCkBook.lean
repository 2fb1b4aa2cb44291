/-
  (*cartularylaw01.Book).Checkpoint by its contract; what readings of a checkpoint leave, in one form.
-/
import Derived.Test.YtjmgkallgflcdaaGreatDoorBook8
import Derived.Test.YtjmgkallgflcdaaGreatDoorRefPs
import Derived.Test.YtjmgkallgflcdaaGreatDoorCkBackP
import Derived.Test.YtjmgkallgflcdaaGreatDoorTold
import Derived.Test.YtjmgkallgflcdaaGreatDoorCkBack1
namespace Go.Proofs.YtjmgkallgflcdaaGreatDoor
open Go.RowKit

theorem KeepS.below {w0 w w' : World} {kb m : Nat} {tv : Value} {V : Nat → Value} (h : KeepS w0 w kb m tv V) (hb : Below w.heap.size w w') : KeepS w0 w' kb m tv V :=
  ⟨below_trans h.bel hb, below_cell hb h.n, below_cell hb h.tx, fun j a b c => below_cell hb (h.nl j a b c), fun j => by rw [World.frozen?_of_block (hb.block kb h.lt.2)]; exact h.fz j, ⟨h.lt.1, Nat.lt_of_lt_of_le h.lt.2 hb.size⟩, ownsRow_below h.own hb⟩
set_option maxHeartbeats 1000000 in
set_option maxRecDepth 100000 in
theorem bookCk_any (w0 w : World) (kb m : Nat) (tv : Value) (V : Nat → Value) (o : List UInt8) (z : Nat) (r : List UInt8) (hr : r.length = 32) (hS : KeepS w0 w kb m tv V) (hv1 : ∃ ao n c, V m = .slice ao n c) (hm : m ≤ 1000) :
    Calls Tryz.prog 17 #[.pointer (some ⟨kb, 0, none⟩), .agg (ckList ⟨o.toArray⟩ (z : Int) (Lib.byteCells r) (V m)).toArray] w fun e w' => e = .returned (.tuple #[]) ∧ ∃ tv', KeepS w0 w' kb (m + 1) tv' V := by
  have b1 : Below w.heap.size w (w.alloc (.cells (ckList ⟨o.toArray⟩ (z : Int) (Lib.byteCells r) (V m)).toArray 27)) := (Below.refl _ _).alloc (Nat.le_refl _) _
  have hrow : CkRow (w.alloc (.cells (ckList ⟨o.toArray⟩ (z : Int) (Lib.byteCells r) (V m)).toArray 27)) w.heap.size ⟨o.toArray⟩ (z : Int) (Lib.byteCells r) (V m) := ⟨by rw [Lib.byteCells_length, hr], heap_alloc_new w _⟩
  have HK := Lib.hid (textsKeep_any w0 _ kb m tv V (hS.below b1) hv1 hm)
  obtain ⟨ao, n, c, hV⟩ := hv1
  have h35 : (ckList ⟨o.toArray⟩ (z : Int) (Lib.byteCells r) (V m)).toArray.size = 35 := by simp [ckList, Lib.byteCells_length, hr]
  obtain ⟨_, _, c34, _⟩ := hrow.cells
  rw [hV] at c34 HK h35 b1 hrow
  have H35 := Lib.hid h35
  rw [hV]
  clear hS b1 hrow h35 hV
  go_enter Tryz.func17, Tryz.ntmps17
  go_wp2_with fail
  refine HK.out.mono ?_
  rintro e w1 ⟨rfl, h⟩
  go_wp2_with fail
  go_end0
  exact ⟨rfl, h⟩
theorem bookCk0_any (w0 w : World) (kb : Nat) (tv va vb vc : Value) (o : List UInt8) (z : Nat) (r : List UInt8) (hr : r.length = 32) (hS : KeepS w0 w kb 0 tv (V3 va vb vc)) (hv : ∃ ao n c, va = .slice ao n c) :
    Calls Tryz.prog 17 #[.pointer (some ⟨kb, 0, none⟩), .agg (ckList ⟨o.toArray⟩ (z : Int) (Lib.byteCells r) va).toArray] w fun e w' => e = .returned (.tuple #[]) ∧ ∃ tv', KeepS w0 w' kb 1 tv' (V3 va vb vc) :=
  bookCk_any w0 w kb 0 tv (V3 va vb vc) o z r hr hS hv (by decide)
theorem bookCk1_any (w0 w : World) (kb : Nat) (tv va vb vc : Value) (o : List UInt8) (z : Nat) (r : List UInt8) (hr : r.length = 32) (hS : KeepS w0 w kb 1 tv (V3 va vb vc)) (hv : ∃ ao n c, vb = .slice ao n c) :
    Calls Tryz.prog 17 #[.pointer (some ⟨kb, 0, none⟩), .agg (ckList ⟨o.toArray⟩ (z : Int) (Lib.byteCells r) vb).toArray] w fun e w' => e = .returned (.tuple #[]) ∧ ∃ tv', KeepS w0 w' kb 2 tv' (V3 va vb vc) :=
  bookCk_any w0 w kb 1 tv (V3 va vb vc) o z r hr hS hv (by decide)
theorem bookCk2_any (w0 w : World) (kb : Nat) (tv va vb vc : Value) (o : List UInt8) (z : Nat) (r : List UInt8) (hr : r.length = 32) (hS : KeepS w0 w kb 2 tv (V3 va vb vc)) (hv : ∃ ao n c, vc = .slice ao n c) :
    Calls Tryz.prog 17 #[.pointer (some ⟨kb, 0, none⟩), .agg (ckList ⟨o.toArray⟩ (z : Int) (Lib.byteCells r) vc).toArray] w fun e w' => e = .returned (.tuple #[]) ∧ ∃ tv', KeepS w0 w' kb 3 tv' (V3 va vb vc) :=
  bookCk_any w0 w kb 2 tv (V3 va vb vc) o z r hr hS hv (by decide)
theorem parseCk_form (l : List UInt8) : ((parseCk l).2.1 ≠ 0 → (parseCk l).1 = st0) ∧ (parseCk l).1.2.2.1.length = 32 ∧ (parseCk l).1.2.2.2.length ≤ 16 ∧ okAns (parseCk l).2.1 (parseCk l).2.2 := by
  have h0 : st0.2.2.1.length = 32 ∧ st0.2.2.2.length ≤ 16 := by simp [st0]
  by_cases hb : 1048576 < l.length
  · have e : parseCk l = (st0, 4, none) := by unfold parseCk; rw [if_pos hb]
    rw [e]
    exact ⟨fun _ => rfl, h0.1, h0.2, .inr (.inl ⟨by simp, rfl⟩)⟩
  · cases hr : ckRun 0 st0 [] l with
    | error k =>
      have e : parseCk l = (st0, 3, some (k : Int)) := by unfold parseCk; rw [if_neg hb, hr]; rfl
      rw [e]
      exact ⟨fun _ => rfl, h0.1, h0.2, .inr (.inr ⟨by simp, _, rfl, by omega⟩)⟩
    | ok st =>
      have e : parseCk l = (st, 0, none) := by unfold parseCk; rw [if_neg hb, hr]; rfl
      have := parse_text e
      rw [e]
      exact ⟨fun h => absurd rfl h, this.2.2.2.2, this.2.2.2.1, .inl ⟨rfl, rfl⟩⟩
def TextsRow (B : Nat) (w : World) (v : Value) (L : List (List UInt8)) : Prop := w.ownsRow B 9 1 v L.length (L.map fun l => Value.string ⟨l.toArray⟩)
theorem TextsRow.in_ {B : Nat} {w : World} {v : Value} {L : List (List UInt8)} (h : TextsRow B w v L) : TextsIn w v L := by
  have h0 : w.ownsRow B 9 1 v L.length (L.map fun l => Value.string ⟨l.toArray⟩) := h
  rcases h.2 with ⟨rfl, hn⟩ | ⟨g, cap, cur, rfl, _, _, hn, _⟩
  · obtain rfl := List.eq_nil_of_length_eq_zero hn
    exact ⟨none, 0, rfl, fun h => absurd rfl h⟩
  · refine ⟨_, _, rfl, fun _ => ⟨g, 0, rfl, fun k x hx => ?_⟩⟩
    have hk : k < L.length := (List.getElem?_eq_some_iff.1 hx).1
    rw [Nat.zero_add, h0.cellAt k (by omega)]
    simp [hx]
theorem TextsRow.conv {B : Nat} {w : World} {v : Value} {L : List (List UInt8)} (h : TextsRow B w v L) {B' : Nat} (hB : B' ≤ B) : TextsRow B' w v L := by
  refine ⟨h.1, ?_⟩
  rcases h.2 with ⟨h1, h2⟩ | ⟨b, c, cur, e1, e2, e3⟩
  · exact .inl ⟨h1, h2⟩
  · exact .inr ⟨b, c, cur, e1, Nat.le_trans hB e2, e3⟩
theorem TextsRow.keep {B : Nat} {w w' : World} {v : Value} {L : List (List UInt8)} (h : TextsRow B w v L) (hb : Below w.heap.size w w') : TextsRow B w' v L := ownsRow_below (h : w.ownsRow _ _ _ _ _ _) hb
theorem TextsRow.slice {B : Nat} {w : World} {v : Value} {L : List (List UInt8)} (h : TextsRow B w v L) : ∃ ao n c, v = .slice ao n c := by
  rcases h.2 with ⟨h1, h2⟩ | ⟨b, c, cur, e1, _⟩
  · exact ⟨_, _, _, h1⟩
  · exact ⟨_, _, _, e1⟩
/-- The value of a reading, whatever it says. -/
theorem parse_val {w w' : World} {l : List UInt8} {cs : Array Value} (h1 : (parseCk l).2.1 ≠ 0 → cs = ckZero) (h2 : (parseCk l).2.1 = 0 → CkVal w.heap.size w' cs (parseCk l).1) :
    ∃ ev, cs = (ckList ⟨(parseCk l).1.1.toArray⟩ ((parseCk l).1.2.1 : Int) (Lib.byteCells (parseCk l).1.2.2.1) ev).toArray ∧ TextsRow w.heap.size w' ev (parseCk l).1.2.2.2 := by
  by_cases hc : (parseCk l).2.1 = 0
  · obtain ⟨ev, _, h4, h5, _⟩ := h2 hc
    refine ⟨ev, h4, ?_⟩
    have h : w'.ownsRow w.heap.size 9 1 ev _ _ := h5
    rw [List.length_map, List.map_map] at h
    exact h
  · refine ⟨.slice none 0 0, ?_, ?_⟩
    · rw [h1 hc, (parseCk_form l).1 hc]
      exact zero_list
    · rw [(parseCk_form l).1 hc]
      exact World.ownsRow_nil _ _ _ _
theorem parse_own (S : Nat → Addr) (s : ByteArray) (w : World) (hs : s.size ≤ 140737488351232) (hB : Base S w) (A : CkSt × Nat × Option Int) (hA : parseCk s.data.toList = A) :
    Calls Tryz.prog 15 #[.string s] w fun e w' => ∃ ev er, e = .returned (.tuple #[.agg (ckList ⟨A.1.1.toArray⟩ (A.1.2.1 : Int) (Lib.byteCells A.1.2.2.1) ev).toArray, er]) ∧ Below w.heap.size w w' ∧ ErrAt S w' er A.2.1 A.2.2 ∧ TextsRow w.heap.size w' ev A.1.2.2.2 := by
  refine (parse_all S s w hs hB).mono ?_
  rintro e w' ⟨cs, er, rfl, hb, he, h1, h2⟩
  obtain ⟨ev, rfl, ho⟩ := parse_val h1 h2
  subst hA
  exact ⟨ev, er, rfl, hb, he, ho⟩
theorem refParse_own (s : ByteArray) (w : World) (hs : s.size ≤ 9223372036854775000) (A : CkSt × Nat × Option Int) (hA : parseCk s.data.toList = A) :
    Calls Tryz.prog 14 #[.string s] w fun e w' => ∃ ev, e = .returned (.tuple #[.agg (ckList ⟨A.1.1.toArray⟩ (A.1.2.1 : Int) (Lib.byteCells A.1.2.2.1) ev).toArray, .agg #[.int .i64 (A.2.1 : Int), .int .i64 (fz A.2.1 A.2.2)]]) ∧ Below w.heap.size w w' ∧ TextsRow w.heap.size w' ev A.1.2.2.2 := by
  refine (refParse_any s w hs).mono ?_
  rintro e w' ⟨cs, rfl, hb, h1, h2⟩
  obtain ⟨ev, rfl, ho⟩ := parse_val h1 h2
  subst hA
  exact ⟨ev, rfl, hb, ho⟩
end Go.Proofs.YtjmgkallgflcdaaGreatDoor
