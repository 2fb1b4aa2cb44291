/-
  Layer 11, plain: the tiles of a log, in order; what they count.
-/
import Derived.Test.YtlahdjdbbfjadaaGreatDoorTileIn
namespace Go.Proofs.YtlahdjdbbfjadaaGreatDoor
open Go.RowKit

abbrev T3 := Nat × Nat × Nat
def tcell (t : T3) : List Value := [.int .u8 (t.1 : Int), .int .u64 (t.2.1 : Int), .int .i64 (t.2.2 : Int)]
def tcells (l : List T3) : List Value := l.flatMap tcell
def cnt (Z v : Nat) : Nat := Z / 2 ^ (8 * v)
def nT (Z v : Nat) : Nat := (cnt Z v + 255) / 256
def mkT (Z v i : Nat) : T3 := (v, i, inW v i Z)
def lev (Z v : Nat) : List T3 := (List.range (nT Z v)).map (mkT Z v)
def pre (Z v : Nat) : List T3 := (List.range v).flatMap (lev Z)
def part (Z v i : Nat) : List T3 := pre Z v ++ (List.range i).map (mkT Z v)

theorem tcells_app (a b : List T3) : tcells (a ++ b) = tcells a ++ tcells b := List.flatMap_append
theorem tcells_len (l : List T3) : (tcells l).length = 3 * l.length := by
  induction l with
  | nil => rfl
  | cons a l ih => simp [tcells, tcell] at ih ⊢; omega
theorem tcells_get (l : List T3) (k : Nat) (t : T3) (h : l[k]? = some t) : (tcells l)[3 * k]? = some (.int .u8 (t.1 : Int)) ∧ (tcells l)[3 * k + 1]? = some (.int .u64 (t.2.1 : Int)) ∧ (tcells l)[3 * k + 2]? = some (.int .i64 (t.2.2 : Int)) := by
  induction l generalizing k with
  | nil => simp at h
  | cons a l ih =>
    cases k with
    | zero =>
      simp at h
      subst h
      exact ⟨rfl, rfl, rfl⟩
    | succ k =>
      simp at h
      have e : tcells (a :: l) = tcell a ++ tcells l := rfl
      obtain ⟨h1, h2, h3⟩ := ih k h
      refine ⟨?_, ?_, ?_⟩ <;> rw [e, List.getElem?_append_right (by simp [tcell]; omega)]
      · rw [show 3 * (k + 1) - (tcell a).length = 3 * k by simp [tcell]; omega]; exact h1
      · rw [show 3 * (k + 1) + 1 - (tcell a).length = 3 * k + 1 by simp [tcell]; omega]; exact h2
      · rw [show 3 * (k + 1) + 2 - (tcell a).length = 3 * k + 2 by simp [tcell]; omega]; exact h3
theorem part_zero (Z v : Nat) : part Z v 0 = pre Z v := by simp [part]
theorem part_succ (Z v i : Nat) : part Z v (i + 1) = part Z v i ++ [mkT Z v i] := by simp [part, List.range_succ]
theorem part_full (Z v : Nat) : part Z v (nT Z v) = pre Z (v + 1) := by simp [part, pre, lev, List.range_succ]
theorem cnt_up (Z v u : Nat) (h : v ≤ u) (h0 : cnt Z v = 0) : cnt Z u = 0 := by
  unfold cnt at *
  rw [Nat.div_eq_zero_iff] at h0 ⊢
  have h1 : 2 ^ (8 * v) ≤ 2 ^ (8 * u) := Nat.pow_le_pow_right (by omega) (by omega)
  have h2 := Nat.two_pow_pos (8 * v)
  rcases h0 with h0 | h0
  · omega
  · exact .inr (by omega)
theorem nT_zero (Z v : Nat) (h : cnt Z v = 0) : nT Z v = 0 := by unfold nT; rw [h]
theorem pre_add (Z v k : Nat) (h0 : cnt Z v = 0) : pre Z (v + k) = pre Z v := by
  induction k with
  | zero => rfl
  | succ k ih =>
    rw [← Nat.add_assoc, ← part_full, nT_zero _ _ (cnt_up Z v (v + k) (by omega) h0), part_zero, ih]
theorem pre_stop (Z v : Nat) (h : v ≤ 8) (h0 : cnt Z v = 0) : pre Z v = pre Z 8 := by
  rw [← pre_add Z v (8 - v) h0, show v + (8 - v) = 8 by omega]
theorem cnt_3 (Z v : Nat) (hZ : Z ≤ 1048576) (h : 3 ≤ v) : cnt Z v = 0 := by
  refine cnt_up Z 3 v h ?_
  unfold cnt
  rw [show (2 : Nat) ^ (8 * 3) = 16777216 by decide]
  omega
theorem cnt_le (Z v : Nat) : cnt Z v ≤ Z := Nat.div_le_self _ _
theorem nT_le (Z v : Nat) (hZ : Z ≤ 1048576) : nT Z v ≤ 4096 := by
  have := cnt_le Z v
  unfold nT
  omega
theorem part_len (Z v i : Nat) : (part Z v i).length = (pre Z v).length + i := by simp [part]
theorem pre_len_le (Z v : Nat) (hZ : Z ≤ 1048576) : (pre Z v).length ≤ 4096 * v := by
  induction v with
  | zero => simp [pre]
  | succ v ih =>
    rw [← part_full, part_len]
    have := nT_le Z v hZ
    omega
theorem pre_len (Z v : Nat) (hZ : Z ≤ 1048576) : (pre Z v).length ≤ 12288 := by
  by_cases h : v ≤ 3
  · have := pre_len_le Z v hZ
    omega
  · have h3 := pre_add Z 3 (v - 3) (cnt_3 Z 3 hZ (by omega))
    rw [show 3 + (v - 3) = v by omega] at h3
    rw [h3]
    have := pre_len_le Z 3 hZ
    omega
theorem inP_iff (Z v i : Nat) (hZ : Z ≤ 1048576) (hv : v ≤ 7) : InP v i Z ↔ i < nT Z v := by
  unfold InP nT cnt
  constructor
  · rintro ⟨_, _, h⟩
    omega
  · intro h
    exact ⟨hv, by omega, by omega⟩
theorem nT_lv (Z v i : Nat) (hZ : Z ≤ 1048576) (h : i < nT Z v) : v ≤ 2 := by
  by_cases h3 : 3 ≤ v
  · rw [nT_zero _ _ (cnt_3 Z v hZ h3)] at h
    omega
  · omega
theorem pre_mem (Z u : Nat) (t : T3) (h : t ∈ pre Z u) : ∃ v i, t = mkT Z v i ∧ v < u ∧ i < nT Z v := by
  unfold pre at h
  rw [List.mem_flatMap] at h
  obtain ⟨v, hv, h⟩ := h
  unfold lev at h
  rw [List.mem_map] at h
  obtain ⟨i, hi, rfl⟩ := h
  exact ⟨v, i, rfl, by simpa using hv, by simpa using hi⟩
theorem mem_pre (Z u v i : Nat) (hv : v < u) (hi : i < nT Z v) : mkT Z v i ∈ pre Z u := by
  unfold pre
  rw [List.mem_flatMap]
  refine ⟨v, by simpa using hv, ?_⟩
  unfold lev
  rw [List.mem_map]
  exact ⟨i, by simpa using hi, rfl⟩

/-- One tile stands ahead of another one. -/
def Ahead (a b : T3) : Prop := a.1 < b.1 ∨ a.1 = b.1 ∧ a.2.1 < b.2.1
theorem lev_ord (Z v n : Nat) : ((List.range n).map (mkT Z v)).Pairwise Ahead := by
  rw [List.pairwise_map]
  exact List.pairwise_lt_range.imp fun h => .inr ⟨rfl, h⟩
theorem pre_ord (Z u : Nat) : (pre Z u).Pairwise Ahead := by
  induction u with
  | zero => exact List.Pairwise.nil
  | succ u ih =>
    rw [← part_full, part, List.pairwise_append]
    refine ⟨ih, lev_ord Z u _, fun a ha b hb => ?_⟩
    obtain ⟨v, i, rfl, hv, _⟩ := pre_mem Z u a ha
    rw [List.mem_map] at hb
    obtain ⟨j, _, rfl⟩ := hb
    exact .inl hv
theorem pre_next (Z u k : Nat) (a b : T3) (ha : (pre Z u)[k]? = some a) (hb : (pre Z u)[k + 1]? = some b) : Ahead a b := by
  have h := List.pairwise_iff_getElem.1 (pre_ord Z u)
  obtain ⟨h1, rfl⟩ := List.getElem?_eq_some_iff.1 ha
  obtain ⟨h2, rfl⟩ := List.getElem?_eq_some_iff.1 hb
  exact h k (k + 1) h1 h2 (by omega)

/-- The widths of a level, together. -/
def sumW (k : Nat) : List T3 → Nat
  | [] => 0
  | t :: r => (if t.1 = k then t.2.2 else 0) + sumW k r
theorem sumW_app (k : Nat) (a b : List T3) : sumW k (a ++ b) = sumW k a + sumW k b := by
  induction a with
  | nil => simp [sumW]
  | cons t a ih => simp only [List.cons_append, sumW, ih]; omega
theorem sumW_lev (Z v n : Nat) : sumW v ((List.range n).map (mkT Z v)) = min (cnt Z v) (256 * n) := by
  induction n with
  | zero => simp [sumW]
  | succ n ih =>
    rw [List.range_succ, List.map_append, sumW_app, ih]
    simp only [List.map_cons, List.map_nil, sumW, mkT, inW, if_true, cnt]
    omega
theorem sumW_other (Z v k n : Nat) (h : v ≠ k) : sumW k ((List.range n).map (mkT Z v)) = 0 := by
  induction n with
  | zero => simp [sumW]
  | succ n ih =>
    rw [List.range_succ, List.map_append, sumW_app, ih]
    simp [sumW, mkT, h]
theorem sumW_pre (Z k u : Nat) : sumW k (pre Z u) = if k < u then cnt Z k else 0 := by
  induction u with
  | zero => simp [pre, sumW]
  | succ u ih =>
    rw [← part_full, part, sumW_app, ih]
    by_cases h : u = k
    · subst h
      rw [sumW_lev, if_neg (by omega), if_pos (by omega)]
      unfold nT
      omega
    · rw [sumW_other _ _ _ _ h]
      by_cases h2 : k < u
      · rw [if_pos h2, if_pos (by omega)]; omega
      · rw [if_neg h2, if_neg (by omega)]
theorem sumW_le (k : Nat) (l : List T3) (h : ∀ t ∈ l, t.2.2 ≤ 256) : sumW k l ≤ 256 * l.length := by
  induction l with
  | nil => simp [sumW]
  | cons t r ih =>
    have h1 := h t (by simp)
    have h2 := ih fun t ht => h t (by simp [ht])
    simp only [sumW, List.length_cons]
    split <;> omega
theorem take_next {l : List T3} {k : Nat} {t : T3} (h : l[k]? = some t) : l.take (k + 1) = l.take k ++ [t] := by
  rw [List.take_add_one, h]
  rfl
theorem sumW_take {l : List T3} {k : Nat} {t : T3} (h : l[k]? = some t) (v : Nat) : sumW v (l.take (k + 1)) = sumW v (l.take k) + if t.1 = v then t.2.2 else 0 := by
  rw [take_next h, sumW_app]
  simp [sumW]
end Go.Proofs.YtlahdjdbbfjadaaGreatDoor
