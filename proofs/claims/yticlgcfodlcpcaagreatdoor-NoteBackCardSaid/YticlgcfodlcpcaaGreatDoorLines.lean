/-
  text.Lines by its contract: the lines of a text.
-/
import Derived.Test.YticlgcfodlcpcaaGreatDoorDec
import Derived.Lib.SplitLaws
namespace Go.Proofs.YticlgcfodlcpcaaGreatDoor
open Go.RowKit

/-- The lines of a text whose every line ends with a line feed; acc: what stands ahead of it in its first line. -/
def linesK (acc : List UInt8) : List UInt8 → List (List UInt8)
  | [] => []
  | c :: r => if c = 10 then acc :: linesK [] r else linesK (acc ++ [c]) r
/-- Lines. -/
def linesOf (l : List UInt8) : List (List UInt8) × Nat × Option Int :=
  if 1048576 < l.length then ([], 4, none) else
  if l = [] then ([], 0, none) else
  if l.getLast? = some 10 then (linesK [] l, 0, none) else ([], 3, some (l.length : Int))

theorem indexByte_cons (c x : UInt8) (r : List UInt8) (h : c ≠ x) : Lib.indexByte (c :: r) x = if Lib.indexByte r x = -1 then -1 else Lib.indexByte r x + 1 := by
  rw [Lib.indexByte, if_neg (by simpa using h)]
  simp
theorem count_none (x : UInt8) (r : List UInt8) (h : Lib.indexByte r x = -1) : r.count x = 0 := by
  have := Lib.count_miss (s := r) (sub := [x]) (by rw [Lib.index_one]; exact h)
  rwa [Lib.count_one] at this
theorem count_some (x : UInt8) (r : List UInt8) (h : Lib.indexByte r x ≠ -1) : 0 < r.count x := by
  have hg := Lib.indexByte_ge r x
  have := Lib.count_hit (s := r) (sub := [x]) (i := (Lib.indexByte r x).toNat) (by simp) (by rw [Lib.index_one]; omega)
  rw [Lib.count_one] at this
  omega
theorem splitK_ne (k : Nat) (s : List UInt8) : Lib.splitK [10] 0 k s ≠ [] := by
  cases k with
  | zero => simp [Lib.splitK]
  | succ k => unfold Lib.splitK; split <;> simp
theorem splitK_cons (c : UInt8) (r : List UInt8) (h : c ≠ 10) : Lib.splitK [10] 0 (r.count 10) (c :: r) = (c :: (Lib.splitK [10] 0 (r.count 10) r).headD []) :: (Lib.splitK [10] 0 (r.count 10) r).tail := by
  by_cases hi : Lib.indexByte r 10 = -1
  · rw [count_none 10 r hi]; simp [Lib.splitK]
  · have hk := count_some 10 r hi
    obtain ⟨k, hk⟩ : ∃ k, r.count 10 = k + 1 := ⟨r.count 10 - 1, by omega⟩
    have hg := Lib.indexByte_ge r 10
    rw [hk]
    unfold Lib.splitK
    rw [Lib.index_one, Lib.index_one, indexByte_cons c 10 r h, if_neg hi]
    have e1 : ¬ ((Lib.indexByte r 10 + 1 == -1) = true) := by simp; omega
    have e2 : ¬ ((Lib.indexByte r 10 == -1) = true) := by simpa using hi
    rw [if_neg e1, if_neg e2]
    obtain ⟨i, hi⟩ : ∃ i : Nat, Lib.indexByte r 10 = i := ⟨(Lib.indexByte r 10).toNat, by omega⟩
    rw [hi]
    have e3 : ((i : Int) + 1).toNat = i + 1 := by omega
    simp [e3]
theorem linesK_split : ∀ (l acc : List UInt8), linesK acc (l ++ [10]) = (acc ++ (Lib.splitK [10] 0 (l.count 10) l).headD []) :: (Lib.splitK [10] 0 (l.count 10) l).tail
  | [], acc => by simp [linesK, Lib.splitK]
  | c :: r, acc => by
    by_cases h : c = 10
    · subst h
      have ih := linesK_split r []
      rw [List.cons_append, linesK, if_pos rfl, ih, List.count_cons_self]
      have e : ¬ ((Lib.index (10 :: r) [10] == -1) = true) := by simp [Lib.index]
      have e2 : Lib.index (10 :: r) [10] = 0 := by simp [Lib.index]
      have e3 : Lib.splitK [10] 0 (r.count 10 + 1) (10 :: r) = [] :: Lib.splitK [10] 0 (r.count 10) r := by
        show (if (Lib.index (10 :: r) [10] == -1) = true then _ else _) = _
        rw [if_neg e, e2]; rfl
      rw [e3]
      have hne := splitK_ne (r.count 10) r
      cases hs : Lib.splitK [10] 0 (r.count 10) r with
      | nil => exact absurd hs hne
      | cons x y => simp
    · have ih := linesK_split r (acc ++ [c])
      have hc : (c :: r).count 10 = r.count 10 := List.count_cons_of_ne h
      rw [List.cons_append, linesK, if_neg h, ih, hc, splitK_cons c r h]
      simp
theorem lines_split (l : List UInt8) : Lib.splitK [10] 0 (l.count 10) l = linesK [] (l ++ [10]) := by
  rw [linesK_split l []]
  have hne := splitK_ne (l.count 10) l
  cases hs : Lib.splitK [10] 0 (l.count 10) l with
  | nil => exact absurd hs hne
  | cons x y => simp

/-- A slice of texts in memory of its own, from block B on: its texts, as lists of bytes. -/
def TextsAt (B : Nat) (w : World) (v : Value) (L : List (List UInt8)) : Prop :=
  (v = .slice none 0 0 ∧ L = []) ∨ ∃ b, B ≤ b ∧ v = .slice (some ⟨b, 0, none⟩) L.length L.length ∧ w.heap[b]? = some (.cells (L.map fun l => Value.string ⟨l.toArray⟩).toArray 9 (0, 0))
theorem TextsAt.below {B : Nat} {w w' : World} {v : Value} {L : List (List UInt8)} (h : TextsAt B w v L) (hb : Below w.heap.size w w') : TextsAt B w' v L := by
  rcases h with h | ⟨b, h1, h2, h3⟩
  · exact .inl h
  · exact .inr ⟨b, h1, h2, below_heap hb h3⟩

theorem splitB_cells (s : ByteArray) (k : Nat) : (Lib.splitB ⟨#[10]⟩ 0 k s).map Value.string = (Lib.splitK [10] 0 k s.data.toList).map fun l => Value.string ⟨l.toArray⟩ := by
  rw [show ([10] : List UInt8) = (ByteArray.mk #[10]).data.toList from rfl, ← Lib.splitB_data, List.map_map]
  rfl

end Go.Proofs.YticlgcfodlcpcaaGreatDoor
