/-
  cartularylaw03.TextRows: its walk.
-/
import Derived.Test.YtjmgkallgflcdaaGreatDoorAlive
import Derived.Laws.OwnMore
namespace Go.Proofs.YtjmgkallgflcdaaGreatDoor
open Go.RowKit

/-! ### plain: lines and their text -/
def joinL (L : List (List UInt8)) : List UInt8 := L.flatMap (· ++ [10])
theorem linesK_no : ∀ (l acc : List UInt8), 10 ∉ acc → ∀ x ∈ linesK acc l, 10 ∉ x
  | [], _, _, x, hx => by cases hx
  | c :: r, acc, ha, x, hx => by
    rw [linesK] at hx
    by_cases hc : c = 10
    · rw [if_pos hc] at hx
      rcases List.mem_cons.1 hx with rfl | hx
      · exact ha
      · exact linesK_no r [] (by simp) x hx
    · rw [if_neg hc] at hx
      refine linesK_no r (acc ++ [c]) ?_ x hx
      simp only [List.mem_append, List.mem_singleton, not_or]
      exact ⟨ha, fun e => hc e.symm⟩
theorem linesK_join : ∀ (l acc : List UInt8), (l = [] → acc = []) → (l ≠ [] → l.getLast? = some 10) → joinL (linesK acc l) = acc ++ l
  | [], acc, h, _ => by rw [h rfl]; rfl
  | c :: r, acc, _, h => by
    have hl := h (by simp)
    rw [linesK]
    by_cases hc : c = 10
    · subst hc
      rw [if_pos rfl]
      have ih := linesK_join r [] (fun _ => rfl) (fun hr => by rwa [List.getLast?_cons_of_ne_nil hr] at hl)
      show (acc ++ [10]) ++ joinL (linesK [] r) = _
      rw [ih]; simp
    · rw [if_neg hc]
      have hr : r ≠ [] := fun e => by subst e; simp at hl; exact hc hl
      rw [linesK_join r (acc ++ [c]) (fun e => absurd e hr) (fun _ => by rwa [List.getLast?_cons_of_ne_nil hr] at hl)]
      simp
theorem linesK_app : ∀ (l acc m : List UInt8), (l = [] → acc = []) → (l ≠ [] → l.getLast? = some 10) → linesK acc (l ++ m) = linesK acc l ++ linesK [] m
  | [], acc, m, h, _ => by rw [h rfl]; rfl
  | c :: r, acc, m, _, h => by
    have hl := h (by simp)
    rw [List.cons_append, linesK, linesK]
    by_cases hc : c = 10
    · subst hc
      rw [if_pos rfl, if_pos rfl, linesK_app r [] m (fun _ => rfl) (fun hr => by rwa [List.getLast?_cons_of_ne_nil hr] at hl)]
      rfl
    · rw [if_neg hc, if_neg hc]
      have hr : r ≠ [] := fun e => by subst e; simp at hl; exact hc hl
      exact linesK_app r (acc ++ [c]) m (fun e => absurd e hr) (fun _ => by rwa [List.getLast?_cons_of_ne_nil hr] at hl)
theorem linesK_len : ∀ (l acc : List UInt8), (linesK acc l).length ≤ l.length
  | [], _ => by simp [linesK]
  | c :: r, acc => by
    rw [linesK]
    split
    · simp only [List.length_cons]; exact Nat.succ_le_succ (linesK_len r [])
    · simp only [List.length_cons]; exact Nat.le_succ_of_le (linesK_len r _)
/-- A text that Lines reads. -/
def okL (l : List UInt8) : Prop := l ≠ [] → l.getLast? = some 10
instance (l : List UInt8) : Decidable (okL l) := by unfold okL; infer_instance
theorem linesOf_ok {l : List UInt8} (h : okL l) (hn : l.length ≤ 1048576) : linesOf l = (linesK [] l, 0, none) := by
  unfold linesOf
  rw [if_neg (by omega)]
  by_cases h0 : l = []
  · rw [if_pos h0, h0]; rfl
  · rw [if_neg h0, if_pos (h h0)]
theorem linesOf_bad {l : List UInt8} (h : ¬ okL l) (hn : l.length ≤ 1048576) : linesOf l = ([], 3, some (l.length : Int)) := by
  unfold okL at h
  unfold linesOf
  rw [if_neg (by omega), if_neg (fun e => h (fun hne => absurd e hne)), if_neg (fun e => h (fun _ => e))]
theorem okL_app {l m : List UInt8} (hm : m ≠ []) : okL (l ++ m) ↔ okL m := by
  unfold okL
  rw [List.getLast?_append, List.getLast?_eq_some_getLast hm]
  simp [hm]

/-! ### contracts -/
theorem err_fault {S : Nat → Addr} {w : World} {v : Value} {c : Nat} {z : Int} (h : ErrAt S w v c (some z)) : ∃ b, v = .iface 116 (.pointer (some ⟨b, 0, none⟩)) := by
  rcases h with ⟨_, _, h⟩ | ⟨_, _, _, h⟩ | ⟨_, _, b, _, h, _⟩
  · cases h
  · cases h
  · exact ⟨b, h⟩
theorem lines_ok (S : Nat → Addr) (s : ByteArray) (w : World) (h : okL s.data.toList) (hn : s.size ≤ 1048576) (hB : Base S w) :
    Calls Tryz.prog 20 #[.string s] w fun e w' => ∃ v, e = .returned (.tuple #[v, .nilIface]) ∧ TextsAt w.heap.size w' v (linesK [] s.data.toList) ∧ Below w.heap.size w w' := by
  refine (lines_any S s w (by omega) hB).mono ?_
  rw [linesOf_ok h (by rw [size_list]; exact hn)]
  rintro e w' ⟨v, ⟨ev, rfl, he, hb⟩, ht⟩
  rw [ErrAt.zero he]
  exact ⟨v, rfl, ht, hb⟩
theorem lines_bad (S : Nat → Addr) (s : ByteArray) (w : World) (h : ¬ okL s.data.toList) (hn : s.size ≤ 1048576) (hB : Base S w) :
    Calls Tryz.prog 20 #[.string s] w fun e w' => ∃ v b, e = .returned (.tuple #[v, .iface 116 (.pointer (some ⟨b, 0, none⟩))]) ∧ ErrAt S w' (.iface 116 (.pointer (some ⟨b, 0, none⟩))) 3 (some (s.size : Int)) ∧ Below w.heap.size w w' := by
  refine (lines_any S s w (by omega) hB).mono ?_
  rw [linesOf_bad h (by rw [size_list]; exact hn), size_list]
  rintro e w' ⟨v, ⟨ev, rfl, he, hb⟩, ht⟩
  obtain ⟨b, rfl⟩ := err_fault he
  exact ⟨v, b, rfl, he, hb⟩

/-- A slice of texts in memory that the call owns. -/
def TextsOwn (B : Nat) (w : World) (v : Value) (L : List (List UInt8)) : Prop := w.ownsRow B 9 1 v L.length (L.map fun l => Value.string ⟨l.toArray⟩)
theorem TextsOwn.in_ {B : Nat} {w : World} {v : Value} {L : List (List UInt8)} (h : TextsOwn B w v L) : TextsIn w v L := by
  have h0 : w.ownsRow B 9 1 v L.length (L.map fun l => Value.string ⟨l.toArray⟩) := h
  rcases h.2 with ⟨rfl, hn⟩ | ⟨g, cap, cur, rfl, _, _, hn, _⟩
  · obtain rfl := List.eq_nil_of_length_eq_zero hn
    exact ⟨none, 0, rfl, fun h => absurd rfl h⟩
  · refine ⟨_, _, rfl, fun _ => ⟨g, 0, rfl, fun k x hx => ?_⟩⟩
    have hk : k < L.length := (List.getElem?_eq_some_iff.1 hx).1
    rw [Nat.zero_add, h0.cellAt k (by omega)]
    simp [hx]
theorem append_texts (w : World) (B : Nat) (v u : Value) (L M : List (List UInt8)) (C : Nat) (hown : TextsOwn B w v L) (hM : TextsAt C w u M) (hlen : L.length + M.length ≤ 1048576) (hbase : B ≤ w.heap.size) :
    ∃ v' w', (Builtin.append_ #[25, 25] 25 #[v, u]).run Tryz.prog w = .ok v' w' ∧ TextsOwn B w' v' (L ++ M) ∧ w.grownBy w' v.ownBlock := by
  have hi : (Tryz.prog.info? 9).map (fun i => (i.zero, i.size, i.bytes)) = some (some (.string ⟨#[]⟩), 1, 16) := by kernel_rfl
  obtain ⟨i, hi, hzz⟩ := Option.map_eq_some_iff.1 hi
  simp only [Prod.mk.injEq] at hzz
  obtain ⟨hz, hsz, hby⟩ := hzz
  rcases hM with ⟨rfl, rfl⟩ | ⟨b, _, rfl, hh⟩
  · exact ⟨v, w, run_append_owned_none w B _ _ _ i 1 Tryz.underlying25 hi v _ _ hown, by rw [List.append_nil]; exact hown, World.grownBy.refl _ _⟩
  · obtain ⟨v', w', h1, h2, h3, _⟩ := run_append_own w B 25 25 9 i (.string ⟨#[]⟩) 1 16 Tryz.underlying25 hi hz hsz hby rfl (by decide) v _ _ hown ⟨b, 0, none⟩ M.length M.length
      (M.map fun l => Value.string ⟨l.toArray⟩) (by simp) (fun j u hj => by rw [show (⟨b, 0, none⟩ : Addr).add j = ⟨b, j, none⟩ by simp [Addr.add]; intro e; exact e.symm, cell_of_row _ _ j _ _ _ hh]; simpa using hj)
      (fun u hu => by obtain ⟨x, _, rfl⟩ := List.mem_map.1 hu; rfl) (by unfold maxLen; omega) (by omega) hbase
    refine ⟨v', w', h1, ?_, h3⟩
    unfold TextsOwn
    rw [List.map_append, List.length_append]
    exact h2

end Go.Proofs.YtjmgkallgflcdaaGreatDoor
