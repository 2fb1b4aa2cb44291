/-
  text.Lines by its contract: the lines of a text.
-/
import Derived.Test.YtjmgkallgflcdaaGreatDoorDec
import Derived.Lib.SplitLaws
namespace Go.Proofs.YtjmgkallgflcdaaGreatDoor
open Go.RowKit

/-- The lines of a text whose every line ends with a line feed; acc: what stands ahead of it in its first line. -/
def linesK (acc : List UInt8) : List UInt8 → List (List UInt8)
  | [] => []
  | c :: r => if c = 10 then acc :: linesK [] r else linesK (acc ++ [c]) r
/-- Lines. -/
def linesOf (l : List UInt8) : List (List UInt8) × Nat × Option Int :=
  if 1048576 < l.length then ([], 4, none) else
  if l = [] then ([], 0, none) else
  if l.getLast? = some 10 then (linesK [] l, 0, none) else ([], 3, some (l.length : Int))

theorem indexByte_cons (c x : UInt8) (r : List UInt8) (h : c ≠ x) : Lib.indexByte (c :: r) x = if Lib.indexByte r x = -1 then -1 else Lib.indexByte r x + 1 := by
  rw [Lib.indexByte, if_neg (by simpa using h)]
  simp
theorem count_none (x : UInt8) (r : List UInt8) (h : Lib.indexByte r x = -1) : r.count x = 0 := by
  have := Lib.count_miss (s := r) (sub := [x]) (by rw [Lib.index_one]; exact h)
  rwa [Lib.count_one] at this
theorem count_some (x : UInt8) (r : List UInt8) (h : Lib.indexByte r x ≠ -1) : 0 < r.count x := by
  have hg := Lib.indexByte_ge r x
  have := Lib.count_hit (s := r) (sub := [x]) (i := (Lib.indexByte r x).toNat) (by simp) (by rw [Lib.index_one]; omega)
  rw [Lib.count_one] at this
  omega
theorem splitK_ne (k : Nat) (s : List UInt8) : Lib.splitK [10] 0 k s ≠ [] := by
  cases k with
  | zero => simp [Lib.splitK]
  | succ k => unfold Lib.splitK; split <;> simp
theorem splitK_cons (c : UInt8) (r : List UInt8) (h : c ≠ 10) : Lib.splitK [10] 0 (r.count 10) (c :: r) = (c :: (Lib.splitK [10] 0 (r.count 10) r).headD []) :: (Lib.splitK [10] 0 (r.count 10) r).tail := by
  by_cases hi : Lib.indexByte r 10 = -1
  · rw [count_none 10 r hi]; simp [Lib.splitK]
  · have hk := count_some 10 r hi
    obtain ⟨k, hk⟩ : ∃ k, r.count 10 = k + 1 := ⟨r.count 10 - 1, by omega⟩
    have hg := Lib.indexByte_ge r 10
    rw [hk]
    unfold Lib.splitK
    rw [Lib.index_one, Lib.index_one, indexByte_cons c 10 r h, if_neg hi]
    have e1 : ¬ ((Lib.indexByte r 10 + 1 == -1) = true) := by simp; omega
    have e2 : ¬ ((Lib.indexByte r 10 == -1) = true) := by simpa using hi
    rw [if_neg e1, if_neg e2]
    obtain ⟨i, hi⟩ : ∃ i : Nat, Lib.indexByte r 10 = i := ⟨(Lib.indexByte r 10).toNat, by omega⟩
    rw [hi]
    have e3 : ((i : Int) + 1).toNat = i + 1 := by omega
    simp [e3]
theorem linesK_split : ∀ (l acc : List UInt8), linesK acc (l ++ [10]) = (acc ++ (Lib.splitK [10] 0 (l.count 10) l).headD []) :: (Lib.splitK [10] 0 (l.count 10) l).tail
  | [], acc => by simp [linesK, Lib.splitK]
  | c :: r, acc => by
    by_cases h : c = 10
    · subst h
      have ih := linesK_split r []
      rw [List.cons_append, linesK, if_pos rfl, ih, List.count_cons_self]
      have e : ¬ ((Lib.index (10 :: r) [10] == -1) = true) := by simp [Lib.index]
      have e2 : Lib.index (10 :: r) [10] = 0 := by simp [Lib.index]
      have e3 : Lib.splitK [10] 0 (r.count 10 + 1) (10 :: r) = [] :: Lib.splitK [10] 0 (r.count 10) r := by
        show (if (Lib.index (10 :: r) [10] == -1) = true then _ else _) = _
        rw [if_neg e, e2]; rfl
      rw [e3]
      have hne := splitK_ne (r.count 10) r
      cases hs : Lib.splitK [10] 0 (r.count 10) r with
      | nil => exact absurd hs hne
      | cons x y => simp
    · have ih := linesK_split r (acc ++ [c])
      have hc : (c :: r).count 10 = r.count 10 := List.count_cons_of_ne h
      rw [List.cons_append, linesK, if_neg h, ih, hc, splitK_cons c r h]
      simp
theorem lines_split (l : List UInt8) : Lib.splitK [10] 0 (l.count 10) l = linesK [] (l ++ [10]) := by
  rw [linesK_split l []]
  have hne := splitK_ne (l.count 10) l
  cases hs : Lib.splitK [10] 0 (l.count 10) l with
  | nil => exact absurd hs hne
  | cons x y => simp

/-- A slice of texts in memory of its own, from block B on: its texts, as lists of bytes. -/
def TextsAt (B : Nat) (w : World) (v : Value) (L : List (List UInt8)) : Prop :=
  (v = .slice none 0 0 ∧ L = []) ∨ ∃ b, B ≤ b ∧ v = .slice (some ⟨b, 0, none⟩) L.length L.length ∧ w.heap[b]? = some (.cells (L.map fun l => Value.string ⟨l.toArray⟩).toArray 9 (0, 0))
theorem TextsAt.below {B : Nat} {w w' : World} {v : Value} {L : List (List UInt8)} (h : TextsAt B w v L) (hb : Below w.heap.size w w') : TextsAt B w' v L := by
  rcases h with h | ⟨b, h1, h2, h3⟩
  · exact .inl h
  · exact .inr ⟨b, h1, h2, below_heap hb h3⟩

theorem splitB_cells (s : ByteArray) (k : Nat) : (Lib.splitB ⟨#[10]⟩ 0 k s).map Value.string = (Lib.splitK [10] 0 k s.data.toList).map fun l => Value.string ⟨l.toArray⟩ := by
  rw [show ([10] : List UInt8) = (ByteArray.mk #[10]).data.toList from rfl, ← Lib.splitB_data, List.map_map]
  rfl

set_option maxHeartbeats 1000000 in
theorem lines_any (S : Nat → Addr) (s : ByteArray) (w : World) (hs : s.size ≤ 9223372036854775807) (hB : Base S w) :
    Calls Tryz.prog 20 #[.string s] w fun e w' => ∃ v, Told S w v (linesOf s.data.toList).2.1 (linesOf s.data.toList).2.2 e w' ∧ TextsAt w.heap.size w' v (linesOf s.data.toList).1 := by
  have hsz := size_list s
  have HB := Lib.hid hB
  by_cases hbig : 1048576 < s.size
  · have g4 := hB.var 4 (by omega) (by omega)
    simp only [errG, errV] at g4
    have hr : linesOf s.data.toList = ([], 4, none) := by unfold linesOf; rw [if_pos (by omega)]
    rw [hr]
    clear hB hr hsz HB
    go_enter Tryz.func20, Tryz.ntmps20
    go_wp2_with fail
    go_quiet (fail)
    go_wp2_with fail
    go_ret2
    exact ⟨_, limit_told S w (below_drewN (Below.refl _ _) _) _, .inl ⟨rfl, rfl⟩⟩
  · by_cases h0 : s.size = 0
    · have hl0 : s.toList = [] := by rw [ByteArray.toList_eq]; exact List.eq_nil_of_length_eq_zero (by omega)
      have hr : linesOf s.data.toList = ([], 0, none) := by unfold linesOf; rw [if_neg (by omega), if_pos (List.eq_nil_of_length_eq_zero (by omega))]
      rw [hr]
      clear hsz hr hbig hB HB
      go_enter Tryz.func20, Tryz.ntmps20
      go_wp2_with fail
      go_ret2
      exact ⟨_, ⟨_, rfl, ErrAt.nil S w, Below.refl _ _⟩, .inl ⟨rfl, rfl⟩⟩
    · have hne : s.toList.isEmpty = false := by rw [ByteArray.toList_eq]; cases hq : s.data.toList with | nil => rw [hq] at hsz; simp at hsz; omega | cons _ _ => rfl
      have hne2 : ¬ s.toList = [] := fun e => by rw [e] at hne; cases hne
      have hne3 : s.data.toList ≠ [] := by rw [← ByteArray.toList_eq]; exact hne2
      obtain ⟨c, hc⟩ : ∃ c, s.data.toList[s.size - 1]? = some c := ⟨_, List.getElem?_eq_getElem (by omega)⟩
      have hlast : s.data.toList.getLast? = some c := by rw [List.getLast?_eq_getElem?, hsz]; exact hc
      have x0 := fun w => run_idx (P := Tryz.prog) Tryz.underlying9 s (s.size - 1) c hc ((s.size : Int) - 1) (by omega) .i64 w
      have hc256 := UInt8.toNat_lt c
      by_cases h10 : c = 10
      · subst h10
        have hr : linesOf s.data.toList = (linesK [] s.data.toList, 0, none) := by unfold linesOf; rw [if_neg (by omega), if_neg hne3, if_pos hlast]
        rw [hr]
        have hcut : (s.extract 0 (s.size - 1)).data.toList ++ [10] = s.data.toList := by
          rw [Lib.extract_data, List.drop_zero, Nat.sub_zero, ← hsz, ← List.dropLast_eq_take]
          rw [List.getLast?_eq_some_getLast hne3] at hlast
          rw [← Option.some.inj hlast]
          exact List.dropLast_concat_getLast hne3
        obtain ⟨m, hm⟩ := hB.mx
        have hsplit : ∀ W, W.heap = w.heap → Calls Tryz.prog 94 #[.string (s.extract 0 (s.size - 1)), .string ⟨#[10]⟩] W fun e w' => e = .returned (.slice (some ⟨W.heap.size, 0, none⟩) (linesK [] s.data.toList).length (linesK [] s.data.toList).length) ∧ W.alloc (.cells ((linesK [] s.data.toList).map fun l => Value.string ⟨l.toArray⟩).toArray 9) = w' := by
          intro W hW
          have hlt : (s.extract 0 (s.size - 1)).size < 4294967281 := by
            rw [← size_list, Lib.extract_data]; simp; omega
          refine (Tryz.strings_Split (s.extract 0 (s.size - 1)) ⟨#[10]⟩ m W hlt (by simp only [World.cell?, hW] at hm ⊢; exact hm) (by decide)).mono ?_
          rintro e w' ⟨rfl, rfl⟩
          have e1 : Lib.countB (s.extract 0 (s.size - 1)) ⟨#[10]⟩ = (s.extract 0 (s.size - 1)).data.toList.count 10 := Lib.count_one 10 _
          have e2 := Lib.splitB_all ⟨#[10]⟩ (by decide) 0 _ (s.extract 0 (s.size - 1)) rfl
          have e3 : (Lib.splitB ⟨#[10]⟩ 0 (Lib.countB (s.extract 0 (s.size - 1)) ⟨#[10]⟩) (s.extract 0 (s.size - 1))).map Value.string = (linesK [] s.data.toList).map fun l => Value.string ⟨l.toArray⟩ := by
            rw [splitB_cells, e1, lines_split, hcut]
          have e4 : (linesK [] s.data.toList).length = Lib.countB (s.extract 0 (s.size - 1)) ⟨#[10]⟩ + 1 := by
            have := congrArg List.length e3
            rw [List.length_map, List.length_map, e2] at this
            exact this.symm
          rw [e4, e3]
          exact ⟨rfl, rfl⟩
        have HS := Lib.hid hsplit
        clear hsplit hm hcut hr hlast hc hne3 hsz hB
        go_enter Tryz.func20, Tryz.ntmps20
        go_wp2_with (go_at_call 94; refine (HS.out _ rfl).mono ?_; rintro e w' ⟨rfl, rfl⟩)
        go_ret2
        exact ⟨_, ⟨_, rfl, ErrAt.nil S _, (Below.refl _ _).alloc (Nat.le_refl _) _⟩, .inr ⟨_, Nat.le_refl _, rfl, heap_alloc_new w _⟩⟩
      · have hr : linesOf s.data.toList = ([], 3, some (s.size : Int)) := by
          unfold linesOf; rw [if_neg (by omega), if_neg hne3, if_neg (by rw [hlast]; intro e; exact h10 (Option.some.inj e)), hsz]
        rw [hr]
        have hcn : ((c.toNat : Int) != 10) = true := by
          rw [bne_iff_ne]; intro e; exact h10 (UInt8.toNat_inj.1 (by simpa using (by omega : c.toNat = 10)))
        clear hr hlast hc hne3 hsz hB
        go_enter Tryz.func20, Tryz.ntmps20
        go_wp2_with (go_at_call 93; refine (wrong_any S s.size _ HB.out).mono ?_; rintro e w' ⟨rfl, rfl⟩)
        go_ret2
        exact ⟨_, ⟨_, rfl, wrong_err S s.size w, wrong_below S s.size w⟩, .inl ⟨rfl, rfl⟩⟩
end Go.Proofs.YtjmgkallgflcdaaGreatDoor
