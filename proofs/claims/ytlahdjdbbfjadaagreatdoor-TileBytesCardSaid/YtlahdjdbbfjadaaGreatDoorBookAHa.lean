/-
  cartularylaw01.Book over lists of hashes: the book's state, plain: an element put behind a row of the call's own, and what stays as it was (printed by wip/genbookg.py). cartularylaw01.Book over lists of hashes: while the lists grow, plain (printed by wip/genbookg.py). cartularylaw01.Book over lists of hashes: the mark and fill by their contracts (printed by wip/genbookg.py). cartularylaw01.Book over lists of hashes: grow and look by their contracts (printed by wip/genbookg.py). cartularylaw01.Book: a list of hashes put in (out of the text for texts; printed by wip/genbookg.py). cartularylaw01.Book.Apart by its contract, where the book holds lists of hashes alone; two lists (printed by wip/genbookg.py).
-/
import Derived.Test.YtlahdjdbbfjadaaGreatDoorTileRow
import Derived.Test.YtlahdjdbbfjadaaGreatDoorTileMay
import Derived.Maps.AppendAt
import Derived.Deep.MidRow
import Derived.Deep.Upon
import Derived.Lib.LazyBuf
import Derived.Test.YtlahdjdbbfjadaaGreatDoorKept
import Derived.Test.YtlahdjdbbfjadaaGreatDoorRefTree
import Derived.Deep.RegionWith
import Derived.Test.YtlahdjdbbfjadaaGreatDoorBookE
namespace Go.Proofs.YtlahdjdbbfjadaaGreatDoor
open Go.RowKit

theorem infoHa : (Tryz.prog.info? 70).map (fun i => (i.zero, i.size, i.bytes)) = some (some (.agg (Array.replicate 32 (.int .u8 0))), 32, 32) := by kernel_rfl
theorem own_belowHa {B : Nat} {w w' : World} {e : TypeId} {size n : Nat} {v : Value} {xs : List Value} (h : w.ownsRow B e size v n xs) (hb : Below w.heap.size w w') : w'.ownsRow B e size v n xs := by
  refine ⟨h.1, ?_⟩
  rcases h.2 with h' | ⟨g, cap, cur, rfl, hg, hh, hr⟩
  · exact .inl h'
  · exact .inr ⟨g, cap, cur, rfl, hg, below_heap hb hh, hr⟩
theorem addr0Ha (g j : Nat) : (⟨g, 0, none⟩ : Addr).add j = ⟨g, j, none⟩ := by rw [Addr.add_mid, Nat.zero_add]
theorem own_atHa {B : Nat} {w : World} {v : Value} {n g : Nat} {xs : List Value} (h : w.ownsRow B 70 32 v n xs) (hg : v.ownBlock = some g) (j : Nat) (hj : j < n * 32) : w.cell? ⟨g, j, none⟩ = some (xs[j]'(by rw [h.1]; exact hj)) := by
  have := h.cells hg j _ (List.getElem?_eq_getElem (by rw [h.1]; exact hj))
  rwa [addr0Ha] at this
theorem run_append_oneHa {W : World} {B : Nat} {v : Value} {n : Nat} {xs : List Value} (hown : W.ownsRow B 70 32 v n xs) (ad : Addr) (ys : List Value) (hys : ys.length = 32) (h1 : ∀ u ∈ ys, u.oneCell' = true) (hnew : ∀ j u, ys[j]? = some u → W.cell? (ad.add j) = some u) (h63 : n + 1 ≤ 2000000) (hB : B ≤ W.heap.size) (ty : TypeId) :
    ∃ v' W', (Builtin.append_ #[22, 22] ty #[v, .slice (some ad) 1 1]).run Tryz.prog W = .ok v' W' ∧ W'.ownsRow B 70 32 v' (n + 1) (xs ++ ys) ∧ W.grownBy W' v.ownBlock ∧
      (v'.ownBlock = v.ownBlock ∨ v'.ownBlock = some W.heap.size) ∧ (∀ g j, g < W.heap.size → (v.ownBlock = some g → j < n * 32) → W'.cell? ⟨g, j, none⟩ = W.cell? ⟨g, j, none⟩) := by
  obtain ⟨i0, hi, hz⟩ := Option.map_eq_some_iff.1 infoHa
  simp only [Prod.mk.injEq] at hz
  obtain ⟨hz0, hz1, hz2⟩ := hz
  obtain ⟨v', W', hr, h2, h3, _, h5⟩ := run_append_own_at (P := Tryz.prog) W B 22 ty 70 i0 (.agg (Array.replicate 32 (.int .u8 0))) 32 32 Tryz.underlying22 hi hz0 hz1 hz2 rfl (by decide) v n xs hown ad 1 1 ys (by omega) hnew h1 (by unfold maxLen; omega) (by omega) hB
  refine ⟨v', W', hr, h2, h3, h5, fun g j hg hj => ?_⟩
  by_cases hb : v.ownBlock = some g
  · have hjn := hj hb
    by_cases hv : v'.ownBlock = some g
    · have hl := hown.1
      have e1 := hown.cells (g := g) hb j xs[j] (List.getElem?_eq_getElem (by omega))
      have e2 := h2.cells (g := g) hv j xs[j] (by rw [List.getElem?_append_left (by omega), List.getElem?_eq_getElem (by omega)])
      rw [addr0Ha] at e1 e2
      rw [e1, e2]
    · rcases hown.2 with ⟨rfl, rfl⟩ | ⟨g', cap, cur, rfl, hbg, hgg, hnc, hcm, hcs, htake⟩
      · omega
      · obtain rfl : g' = g := by simpa [Value.ownBlock] using hb
        have hroom : ¬ n + 1 ≤ cap := fun hroom => by
          have hr' := run_append_room (P := Tryz.prog) W 22 ty 70 i0 Tryz.underlying22 hi g' n cap cur hgg ad 1 1 ys (by rw [hz1]; omega) hnew h1 hroom (by rw [hz1, hcs]; omega)
          rw [hr] at hr'
          injection hr' with q1 q2
          exact hv (by rw [q1]; rfl)
        have holds : ∀ j u, xs[j]? = some u → W.cell? ((⟨g', 0, none⟩ : Addr).add j) = some u := hown.cells (g := g') rfl
        have hr' := run_append_grow (P := Tryz.prog) W 22 ty 70 i0 (.agg (Array.replicate 32 (.int .u8 0))) Tryz.underlying22 hi hz0 ⟨g', 0, none⟩ n cap xs (by rw [hz1]; exact hown.1) holds ad 1 1 ys (by rw [hz1]; omega) hnew (by omega) (by omega) (growslice_fits (by omega) (by rw [hz2]; omega))
        have q2 := (Result.ok.inj (hr.symm.trans hr')).2
        rw [q2]
        exact World.cell?_of_block (heap_alloc_old W.drew _ hg)
  · exact World.cell?_of_block (h3.block g hg (fun e => hb e.symm))

/-- The same elements, one behind the other. -/
def repsHa (n : Nat) (m : List Value) : List Value := (List.replicate n m).flatten
theorem reps_lenHa (n : Nat) {m : List Value} (h : m.length = 32) : (repsHa n m).length = n * 32 := by
  induction n with
  | zero => rfl
  | succ n ih =>
    unfold repsHa at ih ⊢
    rw [List.replicate_succ, List.flatten_cons, List.length_append, ih, h]
    omega
theorem reps_succHa (n : Nat) (m : List Value) : repsHa (n + 1) m = repsHa n m ++ m := by
  unfold repsHa
  rw [List.replicate_succ', List.flatten_append]
  simp
theorem reps_getHa {m : List Value} (h : m.length = 32) : ∀ (n i k : Nat), i < n → k < 32 → (repsHa n m)[i * 32 + k]? = m[k]?
  | n + 1, i, k, hi, hk => by
    rw [reps_succHa]
    have hl := reps_lenHa n h
    by_cases e : i < n
    · rw [List.getElem?_append_left (by omega), reps_getHa h n i k e hk]
    · obtain rfl : i = n := by omega
      rw [List.getElem?_append_right (by omega), hl]
      congr 1
      omega
/-- A mark's bytes. -/
def mkBy (i : Nat) : List UInt8 := [UInt8.ofNat (i + 1), 0, 0] ++ List.replicate 28 0 ++ [201]
/-- The mark of a list. -/
def mkHa (i : Nat) : List Value := Lib.byteCells (mkBy i)
theorem mk_lenHa (i : Nat) : (mkHa i).length = 32 := by unfold mkHa; rw [Lib.byteCells_length]; rfl
theorem mk_oneHa (i : Nat) : ∀ u ∈ mkHa i, u.oneCell' = true := fun u hu => by
  obtain ⟨b, _, rfl⟩ := List.mem_map.1 hu
  rfl
def marksHa (len : Nat → Nat) (j : Nat) : List Value := repsHa (len j) (mkHa j)
def fillCHa (X : Nat → List Value) (len : Nat → Nat) (i t : Nat) : Nat → List Value := fun j => if j < i then marksHa len j else if j = i then repsHa t (mkHa i) ++ (X i).drop (t * 32) else X j
theorem cell_setCell_neHa (w : World) (p : Addr) (v : Value) (q : Addr) (h : q.block ≠ p.block) : (w.setCell p v).cell? q = w.cell? q := World.cell?_of_block (heap_setCell_other w p q.block v h)
theorem heap_setCells_neHa (g : Nat) : ∀ (vs : List Value) (o : Nat) (w : World) (k : Nat), k ≠ g → (w.setCells g o vs).heap[k]? = w.heap[k]?
  | [], _, _, _, _ => rfl
  | v :: vs, o, w, k, h => by rw [World.setCells, heap_setCells_neHa g vs _ _ k h, heap_setCell_other w _ k v h]
theorem cell_setCells_neHa (g : Nat) (vs : List Value) (o : Nat) (w : World) (q : Addr) (h : q.block ≠ g) : (w.setCells g o vs).cell? q = w.cell? q := World.cell?_of_block (heap_setCells_neHa g vs o w _ h)
theorem size_setCellsHa (g : Nat) : ∀ (vs : List Value) (o : Nat) (w : World), (w.setCells g o vs).heap.size = w.heap.size
  | [], _, _ => rfl
  | v :: vs, o, w => by rw [World.setCells, size_setCellsHa g vs]; simp
theorem below_setCellsHa {B g : Nat} {w : World} (hg : B ≤ g) : ∀ (vs : List Value) (o : Nat) (w' : World), Below B w w' → Below B w (w'.setCells g o vs)
  | [], _, _, h => h
  | v :: r, o, w', h => below_setCellsHa hg r (o + 1) (w'.setCell ⟨g, o, none⟩ v) (h.setCell (p := ⟨g, o, none⟩) hg v)
/-- The list of the held lists, read through the book. -/
structure BookSHa (w : World) (kb tb cap m : Nat) (V U : Nat → Value) : Prop where
  bk : w.cell? ⟨kb, 5, none⟩ = some (.slice (some ⟨tb, 0, none⟩) m cap)
  it : ∀ i, i < m → w.cell? ⟨tb, i * 3, none⟩ = some (V i) ∧ w.cell? ⟨tb, i * 3 + 1, none⟩ = some (U i) ∧ w.cell? ⟨tb, i * 3 + 2, none⟩ = some (.int .i64 ((i : Int) + 1))
  nl : ∀ j, 1 ≤ j → j ≤ 16 → j ≠ 5 → w.cell? ⟨kb, j, none⟩ = some (.slice none 0 0)
  fz : ∀ j, w.frozen? ⟨tb, j, none⟩ = false
  lt : kb < w.heap.size ∧ tb < w.heap.size
theorem BookSHa.set {w : World} {kb tb cap m : Nat} {V U : Nat → Value} (h : BookSHa w kb tb cap m V U) (g o : Nat) (vs : List Value) (h1' : g ≠ kb) (h2 : g ≠ tb) : BookSHa (w.setCells g o vs) kb tb cap m V U :=
  ⟨by rw [cell_setCells_neHa _ _ _ _ _ (fun e => h1' e.symm)]; exact h.bk, fun i hi => by
    rw [cell_setCells_neHa _ _ _ _ _ (fun e => h2 e.symm), cell_setCells_neHa _ _ _ _ _ (fun e => h2 e.symm), cell_setCells_neHa _ _ _ _ _ (fun e => h2 e.symm)]
    exact h.it i hi, fun j h1 h2 h3 => by rw [cell_setCells_neHa _ _ _ _ _ (fun e => h1' e.symm)]; exact h.nl j h1 h2 h3, fun j => by rw [World.frozen?_setCells]; exact h.fz j, by
    rw [size_setCellsHa]; exact h.lt⟩
theorem BookSHa.below {w w' : World} {kb tb cap m : Nat} {V U : Nat → Value} (h : BookSHa w kb tb cap m V U) (hb : Below w.heap.size w w') : BookSHa w' kb tb cap m V U :=
  ⟨below_cell hb h.bk, fun i hi => ⟨below_cell hb (h.it i hi).1, below_cell hb (h.it i hi).2.1, below_cell hb (h.it i hi).2.2⟩, fun j h1 h2 h3 => below_cell hb (h.nl j h1 h2 h3), fun j => by rw [World.frozen?_of_block (hb.block tb h.lt.2)]; exact h.fz j, ⟨Nat.lt_of_lt_of_le h.lt.1 hb.size, Nat.lt_of_lt_of_le h.lt.2 hb.size⟩⟩
theorem rowKeepHa {w w' : World} {B : Nat} {e : TypeId} {size : Nat} {v : Value} {n : Nat} {xs : List Value} (h : w.ownsRow B e size v n xs) (hb : ∀ g, v.ownBlock = some g → w'.heap[g]? = w.heap[g]?) : w'.ownsRow B e size v n xs := by
  refine ⟨h.1, ?_⟩
  rcases h.2 with h' | ⟨g, cap, cur, rfl, hg, hh, hr⟩
  · exact .inl h'
  · exact .inr ⟨g, cap, cur, rfl, hg, (hb g rfl).trans hh, hr⟩
/-- No two of the lists, and not the book's own rows, lie in one block. -/
def SepHa (kb tb m : Nat) (V : Nat → Value) : Prop := ∀ i, i < m → ∀ g, (V i).ownBlock = some g → g ≠ kb ∧ g ≠ tb ∧ ∀ j, j < m → j ≠ i → (V j).ownBlock ≠ some g
structure FillSHa (w0 : World) (B : Nat) (w : World) (kb tb cap m : Nat) (V U : Nat → Value) (len : Nat → Nat) (C : Nat → List Value) : Prop where
  bel : Below w0.heap.size w0 w
  bs : BookSHa w kb tb cap m V U
  own : ∀ j, j < m → w.ownsRow B 70 32 (V j) (len j) (C j)
theorem FillSHa.below {w0 w w' : World} {B kb tb cap m : Nat} {V U : Nat → Value} {len : Nat → Nat} {C : Nat → List Value} (h : FillSHa w0 B w kb tb cap m V U len C) (hb : Below w.heap.size w w') : FillSHa w0 B w' kb tb cap m V U len C :=
  ⟨below_trans h.bel hb, h.bs.below hb, fun j hj => own_belowHa (h.own j hj) hb⟩
/-- So many cells set in a row that is owned. -/
theorem own_setCellsHa {B g n cap : Nat} {e : TypeId} {size : Nat} : ∀ (vs : List Value) (o : Nat) (w : World) (xs : List Value), w.ownsRow B e size (.slice (some ⟨g, 0, none⟩) n cap) n xs → o + vs.length ≤ xs.length →
    (w.setCells g o vs).ownsRow B e size (.slice (some ⟨g, 0, none⟩) n cap) n (xs.take o ++ vs ++ xs.drop (o + vs.length))
  | [], o, w, xs, h, hl => by
    rw [List.append_nil, List.length_nil, Nat.add_zero, List.take_append_drop]
    exact h
  | v :: vs, o, w, xs, h, hl => by
    rw [List.length_cons] at hl
    have h1 := (h.stored o v).1
    have h2 := own_setCellsHa vs (o + 1) _ _ h1 (by rw [List.length_set]; omega)
    rw [World.setCells]
    have e : (xs.set o v).take (o + 1) ++ vs ++ (xs.set o v).drop (o + 1 + vs.length) = xs.take o ++ v :: vs ++ xs.drop (o + (v :: vs).length) := by
      rw [List.length_cons, List.drop_set_of_lt (by omega), List.take_add_one, List.getElem?_set_self (by omega), List.take_set_of_le (Nat.le_refl o), show o + (vs.length + 1) = o + 1 + vs.length by omega]
      simp
    rw [← e]
    exact h2
theorem set_markHa (X m : List Value) (t : Nat) (hm : m.length = 32) (_ : t * 32 + 32 ≤ X.length) :
    (repsHa t m ++ X.drop (t * 32)).take (t * 32) ++ m ++ (repsHa t m ++ X.drop (t * 32)).drop (t * 32 + m.length) = repsHa (t + 1) m ++ X.drop ((t + 1) * 32) := by
  have hl := reps_lenHa t hm
  rw [List.take_left' hl, List.drop_append, List.drop_of_length_le (by omega), List.nil_append, hl, List.drop_drop, reps_succHa, hm]
  congr 2
  omega
theorem fill_atHa {w0 w : World} {B kb tb cap m i t g c : Nat} {V U : Nat → Value} {len : Nat → Nat} {X : Nat → List Value} (h : FillSHa w0 B w kb tb cap m V U len (fillCHa X len i t)) (hB : w0.heap.size ≤ B) (hsep : SepHa kb tb m V) (hX : ∀ j, j < m → (X j).length = len j * 32) (hi : i < m) (ht : t < len i) (hV : V i = .slice (some ⟨g, 0, none⟩) (len i) c) :
    w.there g (t * 32) 32 ∧ g < w.heap.size ∧ FillSHa w0 B (w.setCells g (t * 32) (mkHa i)) kb tb cap m V U len (fillCHa X len i (t + 1)) := by
  have ho := h.own i hi
  have hob : (V i).ownBlock = some g := by rw [hV]; rfl
  have hlt := ho.lt g hob
  obtain ⟨s1, s2, s3⟩ := hsep i hi g hob
  have hxl := hX i hi
  have hl := mk_lenHa i
  have hcl : (fillCHa X len i t i).length = len i * 32 := ho.1
  have hth : w.there g (t * 32) 32 := fun j hj => by
    refine ⟨by rw [own_atHa ho hob (t * 32 + j) (by omega)]; rfl, ?_⟩
    rcases ho.2 with ⟨h0, _⟩ | ⟨g', c', cur, e, _, hh, _⟩
    · rw [hV] at h0; cases h0
    · rw [hV] at e
      injection e with e _ _
      injection e with e
      injection e with e _ _
      subst e
      exact frozen_row hh _
  refine ⟨hth, hlt.2, ?_, h.bs.set g _ _ s1 s2, fun j hj => ?_⟩
  · exact below_setCellsHa (Nat.le_trans hB hlt.1) _ _ _ h.bel
  · by_cases hji : j = i
    · subst hji
      rw [hV] at ho
      have hst := own_setCellsHa (mkHa j) (t * 32) w _ ho (by rw [hl, hcl]; omega)
      rw [← hV] at hst
      have e : (fillCHa X len j t j).take (t * 32) ++ mkHa j ++ (fillCHa X len j t j).drop (t * 32 + (mkHa j).length) = fillCHa X len j (t + 1) j := by
        unfold fillCHa
        rw [if_neg (by omega), if_pos rfl, if_neg (by omega), if_pos rfl]
        exact set_markHa (X j) (mkHa j) t hl (by omega)
      rw [e] at hst
      exact hst
    · have e : fillCHa X len i (t + 1) j = fillCHa X len i t j := by
        unfold fillCHa
        by_cases hlt : j < i
        · rw [if_pos hlt, if_pos hlt]
        · rw [if_neg hlt, if_neg hji, if_neg hlt, if_neg hji]
      rw [e]
      exact rowKeepHa (h.own j hj) (fun g' hg' => heap_setCells_neHa g _ _ _ g' (fun e2 => s3 j hj hji (by rw [hg']; exact congrArg some e2)))
theorem fillC_nextHa (X : Nat → List Value) (len : Nat → Nat) (i : Nat) (hX : (X i).length = len i * 32) : fillCHa X len i (len i) = fillCHa X len (i + 1) 0 := by
  funext j
  unfold fillCHa
  rcases Nat.lt_trichotomy j i with h | h | h
  · rw [if_pos h, if_pos (by omega)]
  · subst h
    rw [if_neg (by omega), if_pos rfl, if_pos (by omega), List.drop_eq_nil_of_le (by omega), List.append_nil]
    rfl
  · rw [if_neg (by omega), if_neg (by omega), if_neg (by omega)]
    by_cases h2 : j = i + 1
    · subst h2; rw [if_pos rfl]; simp [repsHa]
    · rw [if_neg h2]
theorem marks_getHa (len : Nat → Nat) (j t k : Nat) (ht : t < len j) (hk : k < 32) : (marksHa len j)[t * 32 + k]? = (mkHa j)[k]? := reps_getHa (mk_lenHa j) _ _ _ ht hk
end Go.Proofs.YtlahdjdbbfjadaaGreatDoor

namespace Go.Proofs.YtlahdjdbbfjadaaGreatDoor
open Go.RowKit

/-- The book's state while the lists grow: k of them have. -/
structure GrowSHa (w0 : World) (B : Nat) (w : World) (kb tb cap m : Nat) (V U : Nat → Value) (len : Nat → Nat) (k ko : Nat) : Prop where
  bel : Below w0.heap.size w0 w
  bs : BookSHa w kb tb cap m V U
  uf : ∀ i, i < m → ∃ ao n c, U i = .slice ao n c
  vlt : ∀ i, i < m → ∀ g, (V i).ownBlock = some g → g < w.heap.size
  rd : ∀ i, i < m → ∀ g t, (V i).ownBlock = some g → t < len i → w.rangeAt g (t * 32) (mkHa i)
  own : ∀ i, ko ≤ i → i < m → w.ownsRow B 70 32 (V i) (len i) (marksHa len i)
  lng : ∀ i, i < k → ∃ g c, U i = .slice (some ⟨g, 0, none⟩) (len i + 70) c ∧ g < w.heap.size ∧ (∀ t, t < len i + 70 → w.rangeAt g (t * 32) (mkHa i)) ∧ (∀ j, j < m → j ≠ i → (V j).ownBlock ≠ some g) ∧ g ≠ tb
/-- What an append onto the k-th list asks and leaves. -/
structure LongSHa (B : Nat) (w : World) (kb tb h m : Nat) (V U : Nat → Value) (len : Nat → Nat) (k s : Nat) (u : Value) : Prop where
  own : w.ownsRow B 70 32 u (len k + s) (repsHa (len k + s) (mkHa k))
  sv : ∀ i, i < m → ∀ g, (V i).ownBlock = some g → u.ownBlock = some g → i = k
  su : ∀ i, i < k → ∀ g n c, U i = .slice (some ⟨g, 0, none⟩) n c → u.ownBlock ≠ some g
  sb : u.ownBlock ≠ some kb ∧ u.ownBlock ≠ some tb ∧ u.ownBlock ≠ some h
theorem range_belowHa {w w' : World} (hb : Below w.heap.size w w') {g o : Nat} {cs : List Value} (h : w.rangeAt g o cs) : w'.rangeAt g o cs := fun j v hv => below_cell hb (h j v hv)
theorem GrowSHa.below {w0 w w' : World} {B kb tb cap m k ko : Nat} {V U : Nat → Value} {len : Nat → Nat} (h : GrowSHa w0 B w kb tb cap m V U len k ko) (hb : Below w.heap.size w w') : GrowSHa w0 B w' kb tb cap m V U len k ko where
  bel := below_trans h.bel hb
  bs := h.bs.below hb
  uf := h.uf
  vlt := fun i hi g hg => Nat.lt_of_lt_of_le (h.vlt i hi g hg) hb.size
  rd := fun i hi g t hg ht => range_belowHa hb (h.rd i hi g t hg ht)
  own := fun i hk hi => own_belowHa (h.own i hk hi) hb
  lng := fun i hi => by
    obtain ⟨g, c, h1, h2, h3, h4⟩ := h.lng i hi
    exact ⟨g, c, h1, Nat.lt_of_lt_of_le h2 hb.size, fun t ht => range_belowHa hb (h3 t ht), h4⟩
theorem LongSHa.below {w w' : World} {B kb tb hh m k s : Nat} {V U : Nat → Value} {len : Nat → Nat} {u : Value} (h : LongSHa B w kb tb hh m V U len k s u) (hb : Below w.heap.size w w') : LongSHa B w' kb tb hh m V U len k s u :=
  ⟨own_belowHa h.own hb, h.sv, h.su, h.sb⟩
/-- What one element more leaves of the book's state. -/
theorem grow_appendHa {w0 w w' : World} {B kb tb cap m k ko s hh : Nat} {V U : Nat → Value} {len : Nat → Nat} {u u' : Value} (h : GrowSHa w0 B w kb tb cap m V U len k ko) (hko : k < ko) (hl : LongSHa B w kb tb hh m V U len k s u) (hB : w0.heap.size ≤ B) (hBw : B ≤ w.heap.size) (hhw : hh < w.heap.size)
    (h1 : w'.ownsRow B 70 32 u' (len k + s + 1) (repsHa (len k + s) (mkHa k) ++ mkHa k)) (h2 : w.grownBy w' u.ownBlock) (h3 : u'.ownBlock = u.ownBlock ∨ u'.ownBlock = some w.heap.size)
    (h4 : ∀ g j, g < w.heap.size → (u.ownBlock = some g → j < (len k + s) * 32) → w'.cell? ⟨g, j, none⟩ = w.cell? ⟨g, j, none⟩) :
    GrowSHa w0 B w' kb tb cap m V U len k ko ∧ LongSHa B w' kb tb hh m V U len k (s + 1) u' ∧ w'.heap[hh]? = w.heap[hh]? := by
  have hbk : ∀ j : Nat, w'.cell? ⟨kb, j, none⟩ = w.cell? ⟨kb, j, none⟩ := fun j => h4 kb j h.bs.lt.1 (fun e => absurd e hl.sb.1)
  have hbt : ∀ j : Nat, w'.cell? ⟨tb, j, none⟩ = w.cell? ⟨tb, j, none⟩ := fun j => h4 tb j h.bs.lt.2 (fun e => absurd e hl.sb.2.1)
  refine ⟨⟨?_, ⟨by rw [hbk]; exact h.bs.bk, fun i hi => by rw [hbt, hbt, hbt]; exact h.bs.it i hi, fun j x1 x2 x3 => by rw [hbk]; exact h.bs.nl j x1 x2 x3, fun j => by rw [World.frozen?_of_block (h2.block tb h.bs.lt.2 (fun e => hl.sb.2.1 e.symm))]; exact h.bs.fz j, ⟨Nat.lt_of_lt_of_le h.bs.lt.1 h2.size, Nat.lt_of_lt_of_le h.bs.lt.2 h2.size⟩⟩, h.uf, ?_, ?_, ?_, ?_⟩, ⟨?_, ?_, ?_, ?_⟩, ?_⟩
  · refine h.bel.grown h2 (Nat.le_trans hB hBw) fun g hg => ?_
    exact Nat.le_trans hB (hl.own.lt g hg).1
  · exact fun i hi g hg => Nat.lt_of_lt_of_le (h.vlt i hi g hg) h2.size
  · intro i hi g t hg ht j v hv
    have hk := (List.getElem?_eq_some_iff.1 hv).1
    rw [mk_lenHa] at hk
    rw [h4 g _ (h.vlt i hi g hg) (fun e => by have := hl.sv i hi g hg e; subst this; omega)]
    exact h.rd i hi g t hg ht j v hv
  · intro i hki hi
    refine rowKeepHa (h.own i hki hi) fun g hg => h2.block g (h.vlt i hi g hg) fun e => ?_
    have := hl.sv i hi g hg e.symm
    omega
  · intro i hi
    obtain ⟨g, c, e1, e2, e3, e4⟩ := h.lng i hi
    refine ⟨g, c, e1, Nat.lt_of_lt_of_le e2 h2.size, fun t ht j v hv => ?_, e4⟩
    rw [h4 g _ e2 (fun e => absurd e (hl.su i hi g _ _ e1))]
    exact e3 t ht j v hv
  · rw [show len k + (s + 1) = len k + s + 1 by omega, reps_succHa]
    exact h1
  · intro i hi g hg hu
    rcases h3 with e | e
    · exact hl.sv i hi g hg (e ▸ hu)
    · rw [e] at hu
      have := h.vlt i hi g hg
      injection hu with hu
      omega
  · intro i hi g n c hU hu
    rcases h3 with e | e
    · exact hl.su i hi g n c hU (e ▸ hu)
    · obtain ⟨g', c', e1, e2, _⟩ := h.lng i hi
      rw [hU] at e1
      injection e1 with e1 _ _
      injection e1 with e1
      injection e1 with e1 _ _
      rw [e] at hu
      injection hu with hu
      omega
  · rcases h3 with e | e
    · rw [e]; exact hl.sb
    · rw [e]
      have := h.bs.lt
      exact ⟨fun q => by injection q with q; omega, fun q => by injection q with q; omega, fun q => by injection q with q; omega⟩
  · exact h2.block hh hhw (fun e => hl.sb.2.2 e.symm)
theorem grow_startHa {w0 w : World} {B kb tb cap m k : Nat} {V U : Nat → Value} {len : Nat → Nat} (h : GrowSHa w0 B w kb tb cap m V U len k k) (hk : k < m) (hh : Nat) (hsep : SepHa kb tb m V) (hV : ∀ g, (V k).ownBlock = some g → g ≠ hh) :
    GrowSHa w0 B w kb tb cap m V U len k (k + 1) ∧ LongSHa B w kb tb hh m V U len k 0 (V k) := by
  refine ⟨⟨h.bel, h.bs, h.uf, h.vlt, h.rd, fun i hi hm => h.own i (by omega) hm, h.lng⟩, ⟨h.own k (Nat.le_refl _) hk, fun i hi g hg hu => ?_, fun i hi g n c hU hu => ?_, ?_, ?_, ?_⟩⟩
  · by_cases e : i = k
    · exact e
    · exact absurd hu ((hsep i hi g hg).2.2 k hk (fun q => e q.symm))
  · obtain ⟨g', c', e1, _, _, e4⟩ := h.lng i hi
    rw [hU] at e1
    injection e1 with e1 _ _
    injection e1 with e1
    injection e1 with e1 _ _
    subst e1
    exact e4.1 k hk (by omega) hu
  · exact fun e => (hsep k hk kb e).1 rfl
  · exact fun e => (hsep k hk tb e).2.1 rfl
  · exact fun e => hV hh e rfl
/-- A list has grown: its new value is laid into the book. -/
theorem grow_endHa {w0 w : World} {B kb tb cap m k hh : Nat} {V U : Nat → Value} {len : Nat → Nat} {u : Value} (h : GrowSHa w0 B w kb tb cap m V U len k (k + 1)) (hl : LongSHa B w kb tb hh m V U len k 70 u) (hk : k < m) (hkt : kb ≠ tb) (hB : w0.heap.size ≤ tb) (hsep : SepHa kb tb m V) :
    ∃ g c, u = .slice (some ⟨g, 0, none⟩) (len k + 70) c ∧ GrowSHa w0 B (w.setCell ⟨tb, k * 3 + 1, none⟩ u) kb tb cap m V (fun j => if j = k then u else U j) len (k + 1) (k + 1) := by
  rcases hl.own.2 with ⟨_, h0⟩ | ⟨g, c, cur, hu, hg, hh', hr⟩
  · omega
  · have hgw := lt_of_heap hh'
    have hgt : g ≠ tb := fun e => hl.sb.2.1 (by rw [hu, e]; rfl)
    have hsz : (w.setCell ⟨tb, k * 3 + 1, none⟩ u).heap.size = w.heap.size := by simp
    have hcell : ∀ p : Addr, p.block ≠ tb → (w.setCell ⟨tb, k * 3 + 1, none⟩ u).cell? p = w.cell? p := fun p hp => cell_setCell_neHa _ _ _ _ hp
    have hc0 := (h.bs.it k hk).2.1
    have hoff : ∀ j, j ≠ k * 3 + 1 → (w.setCell ⟨tb, k * 3 + 1, none⟩ u).cell? ⟨tb, j, none⟩ = w.cell? ⟨tb, j, none⟩ := fun j hj =>
      World.cell?_setCells_out tb [u] (k * 3 + 1) w ⟨tb, j, none⟩ (fun _ _ => by simp only [List.length_cons, List.length_nil]; omega)
    have hset : (w.setCell ⟨tb, k * 3 + 1, none⟩ u).cell? ⟨tb, k * 3 + 1, none⟩ = some u := World.cell?_setCell_same' w _ u (by rw [hc0]; rfl)
    refine ⟨g, c, hu, ⟨h.bel.setCell (p := ⟨tb, k * 3 + 1, none⟩) hB _, ⟨by rw [hcell _ hkt]; exact h.bs.bk, fun i hi => ?_, fun j x1 x2 x3 => by rw [hcell _ hkt]; exact h.bs.nl j x1 x2 x3, fun j => by rw [World.frozen?_setCell]; exact h.bs.fz j, by rw [hsz]; exact h.bs.lt⟩, fun i hi => ?_, ?_, ?_, ?_, ?_⟩⟩
    · obtain ⟨a, b, d⟩ := h.bs.it i hi
      refine ⟨by rw [hoff _ (by omega)]; exact a, ?_, by rw [hoff _ (by omega)]; exact d⟩
      by_cases e : i = k
      · subst e; rw [hset, if_pos rfl]
      · rw [hoff _ (by omega), if_neg e]; exact b
    · by_cases e : i = k
      · exact ⟨_, _, _, by rw [if_pos e]; exact hu⟩
      · rw [if_neg e]; exact h.uf i hi
    · rw [hsz]; exact h.vlt
    · intro i hi g' t hg' ht j v hv
      rw [hcell _ (fun e => (hsep i hi g' hg').2.1 e)]
      exact h.rd i hi g' t hg' ht j v hv
    · intro i hki hi
      exact rowKeepHa (h.own i hki hi) fun g' hg' => heap_setCell_other w _ g' _ (fun e => (hsep i hi g' hg').2.1 e)
    · intro i hi
      rw [hsz]
      by_cases e : i = k
      · subst e
        have ho := hl.own
        refine ⟨g, c, by rw [if_pos rfl]; exact hu, hgw, fun t ht j v hv => ?_, fun j hj hji hV => ?_, ?_⟩
        · have hj := (List.getElem?_eq_some_iff.1 hv).1
          have hj' := hj
          rw [mk_lenHa] at hj'
          rw [hcell _ hgt]
          have := ho.cells (g := g) (by rw [hu]; rfl) (t * 32 + j) v (by rw [reps_getHa (mk_lenHa i) _ _ _ ht hj']; exact hv)
          rwa [addr0Ha] at this
        · exact hji (hl.sv j hj g hV (by rw [hu]; rfl))
        · exact hgt
      · obtain ⟨g', c', e1, e2, e3, e4⟩ := h.lng i (by omega)
        refine ⟨g', c', by rw [if_neg e]; exact e1, e2, fun t ht j v hv => ?_, e4⟩
        rw [hcell _ e4.2]
        exact e3 t ht j v hv
theorem grow_of_fillHa {w0 w : World} {B kb tb cap m : Nat} {V : Nat → Value} {len : Nat → Nat} (h : FillSHa w0 B w kb tb cap m V (fun _ => .slice none 0 0) len (marksHa len)) : GrowSHa w0 B w kb tb cap m V (fun _ => .slice none 0 0) len 0 0 where
  bel := h.bel
  bs := h.bs
  uf := fun _ _ => ⟨_, _, _, rfl⟩
  vlt := fun i hi g hg => ((h.own i hi).lt g hg).2
  rd := fun i hi g t hg ht j v hv => by
    have hj := (List.getElem?_eq_some_iff.1 hv).1
    rw [mk_lenHa] at hj
    have := (h.own i hi).cells hg (t * 32 + j) v (by rw [marks_getHa len i t j ht hj]; exact hv)
    rwa [addr0Ha] at this
  own := fun i _ hi => h.own i hi
  lng := fun i hi => by omega
theorem wpList_append_oneHa {ops : Array Oper} {rest : List Oper} {o : Oper} {a : Act} {W : World} {Q : Exit → Act → World → Prop} (hgd : o.guard = none) (s x : Operand)
    (ho : o.op = .call { callee := .builtin .append, args := #[s, x], argTypes := #[22, 22] }) {B n : Nat} {v : Value} {xs ys : List Value} {ad : Addr}
    (hs : a.eval s = v) (hown : W.ownsRow B 70 32 v n xs) (hx : a.eval x = .slice (some ad) 1 1) (hys : ys.length = 32) (h1 : ∀ u ∈ ys, u.oneCell' = true) (hnew : ∀ j u, ys[j]? = some u → W.cell? (ad.add j) = some u) (h63 : n + 1 ≤ 2000000) (hB : B ≤ W.heap.size)
    (h : ∀ v' W', W'.ownsRow B 70 32 v' (n + 1) (xs ++ ys) → W.grownBy W' v.ownBlock → (v'.ownBlock = v.ownBlock ∨ v'.ownBlock = some W.heap.size) → (∀ g j, g < W.heap.size → (v.ownBlock = some g → j < n * 32) → W'.cell? ⟨g, j, none⟩ = W.cell? ⟨g, j, none⟩) →
      wpList Tryz.prog ops Q rest (a.put o.dst v') W') : wpList Tryz.prog ops Q (o :: rest) a W :=
  wpList_plain hgd fun K hK => by
    obtain ⟨v', W', hr, h1, h2, h3, h4⟩ := run_append_oneHa hown ad ys hys h1 hnew h63 hB o.type
    unfold Oper.wp execOp
    simp only [ho, resolve, invoke, builtin, Sem.run_bind, Sem.run_pure, Result.andThen_ok, List.map_toArray, List.map_cons, List.map_nil, hs, hx, hr]
    exact hK _ _ (h v' W' h1 h2 h3 h4)
end Go.Proofs.YtlahdjdbbfjadaaGreatDoor

namespace Go.Proofs.YtlahdjdbbfjadaaGreatDoor
open Go.RowKit


set_option maxHeartbeats 4000000 in
set_option maxRecDepth 100000 in
theorem mark1Ha (w : World) : Calls Tryz.prog 27 #[.int .i64 1] w fun e w' => e = .returned (.agg (Lib.byteCells (mkBy 0)).toArray) ∧ Below w.heap.size w w' := by
  obtain ⟨zl, hzl, hz32⟩ := zero_bytesR
  have HZL := Lib.hid (show (Lib.byteCells zl).toArray.size = 32 by rw [List.size_toArray, Lib.byteCells_length, hzl]; rfl)
  have HMS := Lib.hid (show (Lib.byteCells (mkBy 0)).toArray.size = 32 by rw [List.size_toArray, Lib.byteCells_length]; rfl)
  have hO := heap_one w (.cells (Lib.byteCells zl).toArray 70)
  have hB := below_one w (.cells (Lib.byteCells zl).toArray 70)
  clear hzl
  go_enter Tryz.func27, Tryz.ntmps27
  go_upto_region 1 with fail
  generalize (w.alloc (.cells (Lib.byteCells zl).toArray 70)) = w1 at *
  have HO := Lib.hid hO
  have HRE := Lib.hid (setRow_heap w1 w.heap.size _ (Lib.byteCells (mkBy 0)).toArray 70 (0, 0) hO)
  have HBR := Lib.hid (below_setRow hB (Nat.le_refl _) (Lib.byteCells (mkBy 0)).toArray)
  clear hO hB hz32
  go_wp2_with (first | (refine wpList_run (by rfl) ⟨_, _, rfl⟩ (.agg (Lib.byteCells (mkBy 0)).toArray) (fun w => by kernel_rfl) ?_) | (refine wpList_store_row (by rfl) 70 (.tmp 2) (.tmp 11) (by rfl) w.heap.size (Lib.byteCells (mkBy 0)).toArray (by rfl) (by rfl) 70 (Lib.byteCells zl).toArray HO.out (by rw [HMS.out]; exact hashInfo) (by rw [HMS.out, HZL.out]) (byteCells_one (mkBy 0)) ?_))
  exact bodyPost_ret (results_row0 rfl _ _ w.heap.size 70 _ (0, 0) _ rfl HRE.out Tryz.underlying70 rfl (by rw [HMS.out]; exact hashInfo)) rfl ⟨rfl, HBR.out⟩
set_option maxHeartbeats 4000000 in
set_option maxRecDepth 100000 in
theorem is1Ha (w : World) : Calls Tryz.prog 33 #[.agg (Lib.byteCells (mkBy 0)).toArray, .int .i64 1] w fun e w' => e = .returned (.bool true) ∧ Below w.heap.size w w' := by
  have HML := Lib.hid (show (mkBy 0).length = 32 from rfl)
  have HR := Lib.hid (range_new2 w (mkBy 0))
  have HB := Lib.hid (below_one w (.cells (Lib.byteCells (mkBy 0)).toArray 70))
  go_enter Tryz.func33, Tryz.ntmps33
  go_upto_region 1 with fail
  go_wp2_with (first | (refine wpList_hashLoad (by rfl) (.tmp 2) (by rfl) w.heap.size 0 (by rfl) (mkBy 0) HML.out HR.out ?_) | (refine wpList_run (by rfl) ⟨_, _, rfl⟩ (.agg (Lib.byteCells (mkBy 0)).toArray) (fun w => by kernel_rfl) ?_) | (refine wpList_hashEq (by rfl) (.tmp 5) (.tmp 14) _ (by rfl) (mkBy 0) (by rfl) (by rfl) HML.out ?_))
  go_ret
  exact ⟨rfl, HB.out⟩
set_option maxHeartbeats 4000000 in
set_option maxRecDepth 100000 in
theorem mark2Ha (w : World) : Calls Tryz.prog 27 #[.int .i64 2] w fun e w' => e = .returned (.agg (Lib.byteCells (mkBy 1)).toArray) ∧ Below w.heap.size w w' := by
  obtain ⟨zl, hzl, hz32⟩ := zero_bytesR
  have HZL := Lib.hid (show (Lib.byteCells zl).toArray.size = 32 by rw [List.size_toArray, Lib.byteCells_length, hzl]; rfl)
  have HMS := Lib.hid (show (Lib.byteCells (mkBy 1)).toArray.size = 32 by rw [List.size_toArray, Lib.byteCells_length]; rfl)
  have hO := heap_one w (.cells (Lib.byteCells zl).toArray 70)
  have hB := below_one w (.cells (Lib.byteCells zl).toArray 70)
  clear hzl
  go_enter Tryz.func27, Tryz.ntmps27
  go_upto_region 1 with fail
  generalize (w.alloc (.cells (Lib.byteCells zl).toArray 70)) = w1 at *
  have HO := Lib.hid hO
  have HRE := Lib.hid (setRow_heap w1 w.heap.size _ (Lib.byteCells (mkBy 1)).toArray 70 (0, 0) hO)
  have HBR := Lib.hid (below_setRow hB (Nat.le_refl _) (Lib.byteCells (mkBy 1)).toArray)
  clear hO hB hz32
  go_wp2_with (first | (refine wpList_run (by rfl) ⟨_, _, rfl⟩ (.agg (Lib.byteCells (mkBy 1)).toArray) (fun w => by kernel_rfl) ?_) | (refine wpList_store_row (by rfl) 70 (.tmp 2) (.tmp 11) (by rfl) w.heap.size (Lib.byteCells (mkBy 1)).toArray (by rfl) (by rfl) 70 (Lib.byteCells zl).toArray HO.out (by rw [HMS.out]; exact hashInfo) (by rw [HMS.out, HZL.out]) (byteCells_one (mkBy 1)) ?_))
  exact bodyPost_ret (results_row0 rfl _ _ w.heap.size 70 _ (0, 0) _ rfl HRE.out Tryz.underlying70 rfl (by rw [HMS.out]; exact hashInfo)) rfl ⟨rfl, HBR.out⟩
set_option maxHeartbeats 4000000 in
set_option maxRecDepth 100000 in
theorem is2Ha (w : World) : Calls Tryz.prog 33 #[.agg (Lib.byteCells (mkBy 1)).toArray, .int .i64 2] w fun e w' => e = .returned (.bool true) ∧ Below w.heap.size w w' := by
  have HML := Lib.hid (show (mkBy 1).length = 32 from rfl)
  have HR := Lib.hid (range_new2 w (mkBy 1))
  have HB := Lib.hid (below_one w (.cells (Lib.byteCells (mkBy 1)).toArray 70))
  go_enter Tryz.func33, Tryz.ntmps33
  go_upto_region 1 with fail
  go_wp2_with (first | (refine wpList_hashLoad (by rfl) (.tmp 2) (by rfl) w.heap.size 0 (by rfl) (mkBy 1) HML.out HR.out ?_) | (refine wpList_run (by rfl) ⟨_, _, rfl⟩ (.agg (Lib.byteCells (mkBy 1)).toArray) (fun w => by kernel_rfl) ?_) | (refine wpList_hashEq (by rfl) (.tmp 5) (.tmp 14) _ (by rfl) (mkBy 1) (by rfl) (by rfl) HML.out ?_))
  go_ret
  exact ⟨rfl, HB.out⟩
theorem mark_anyHa (i : Nat) (hi : i < 2) (w : World) : Calls Tryz.prog 27 #[.int .i64 ((i : Int) + 1)] w fun e w' => e = .returned (.agg (mkHa i).toArray) ∧ Below w.heap.size w w' := by
  rcases show i = 0 ∨ i = 1 by omega with rfl | rfl
  · exact mark1Ha w
  · exact mark2Ha w
theorem is_anyHa (i : Nat) (hi : i < 2) (w : World) : Calls Tryz.prog 33 #[.agg (mkHa i).toArray, .int .i64 ((i : Int) + 1)] w fun e w' => e = .returned (.bool true) ∧ Below w.heap.size w w' := by
  rcases show i = 0 ∨ i = 1 by omega with rfl | rfl
  · exact is1Ha w
  · exact is2Ha w
theorem infoEHa : (Tryz.prog.info? 70).map (·.size) = some 32 := by kernel_rfl
theorem mk_allHa (i : Nat) : (mkHa i).toArray.all (·.oneCell') = true := all_oneCell_toArray (mk_oneHa i)
set_option maxHeartbeats 4000000 in
set_option maxRecDepth 100000 in
theorem fill_anyHa (w0 w : World) (B kb tb cap m : Nat) (V U : Nat → Value) (len : Nat → Nat) (X : Nat → List Value) (hS : FillSHa w0 B w kb tb cap m V U len X) (hB : w0.heap.size ≤ B) (hsep : SepHa kb tb m V) (hU : ∀ j, j < m → ∃ ao n c, U j = .slice ao n c) (hlen : ∀ j, j < m → len j ≤ 1048576) (hm : m ≤ 2) :
    Calls Tryz.prog 39 #[.pointer (some ⟨kb, 0, none⟩)] w fun e w' => e = .returned (.tuple #[]) ∧ FillSHa w0 B w' kb tb cap m V U len (marksHa len) := by
  have HX := Lib.hid (fun j (hj : j < m) => ((hS.own j hj).1 : (X j).length = len j * 32))
  have h0 : fillCHa X len 0 0 = X := by
    funext j
    unfold fillCHa
    rw [if_neg (by omega)]
    by_cases hj : j = 0
    · subst hj; rw [if_pos rfl]; simp [repsHa]
    · rw [if_neg hj]
  rw [← h0] at hS
  have HS := Lib.hid hS
  have hbk := hS.bs.bk
  have HSEP := Lib.hid hsep
  have HU := Lib.hid hU
  have HLEN := Lib.hid hlen
  clear hS hsep h0 hlen hU
  go_enter Tryz.func39, Tryz.ntmps39
  go_wp2_with fail
  go_loopw [2] (fun vi wr => ∃ i : Nat, i ≤ m ∧ vi = .int .i64 i ∧ FillSHa w0 B wr kb tb cap m V U len (fillCHa X len i 0)) (fun vi _ => m - (intOf vi).toNat)
  case atStart => exact ⟨0, by omega, rfl, HS.out⟩
  case round =>
    obtain ⟨i, hi, rfl, hS⟩ := hrel
    have hbk := hS.bs.bk
    have HSI := Lib.hid hS
    by_cases hlt : i < m
    · have i0 : (0 : Int) ≤ (i : Int) := by omega
      have i1 : (i : Int) < (m : Int) := by omega
      obtain ⟨e0, e1, e2⟩ := hS.bs.it i hlt
      have hob : ∃ ao c, V i = .slice ao (len i) c := by
        rcases (hS.own i hlt).2 with ⟨h, hn⟩ | ⟨g, c, cur, h, _⟩
        · exact ⟨none, 0, by rw [h, hn]⟩
        · exact ⟨_, _, h⟩
      obtain ⟨ao, c, hV⟩ := hob
      obtain ⟨uo, un, uc, hUi⟩ := HU.out i hlt
      rw [hV] at e0
      rw [hUi] at e1
      have HV := Lib.hid hV
      have hli := HLEN.out i hlt
      clear hS hV hUi
      have ba : Below wr.heap.size wr (wr.alloc (.cells #[.slice ao (len i) c, .slice uo un uc, .int .i64 ((i : Int) + 1)] 111)) := (Below.refl _ _).alloc (Nat.le_refl _) _
      have hra : (wr.alloc (.cells #[.slice ao (len i) c, .slice uo un uc, .int .i64 ((i : Int) + 1)] 111)).heap[wr.heap.size]? = some (.cells #[.slice ao (len i) c, .slice uo un uc, .int .i64 ((i : Int) + 1)] 111 (0, 0)) := heap_alloc_new wr _
      have HSA := Lib.hid (HSI.out.below ba)
      have HRA := Lib.hid hra
      have hsza : (wr.alloc (.cells #[.slice ao (len i) c, .slice uo un uc, .int .i64 ((i : Int) + 1)] 111)).heap.size = wr.heap.size + 1 := by simp
      have HGL := Lib.hid (fun g (hg : (V i).ownBlock = some g) => ((HSI.out.own i hlt).lt g hg).2)
      clear ba hra
      go_wp2_with fail
      generalize wr.alloc (.cells #[.slice ao (len i) c, .slice uo un uc, .int .i64 ((i : Int) + 1)] 111) = wa at *
      go_loopw [4] (fun vk wq => ∃ t : Nat, t ≤ len i ∧ vk = .int .i64 t ∧ FillSHa w0 B wq kb tb cap m V U len (fillCHa X len i t) ∧ wq.heap[wr.heap.size]? = some (.cells #[.slice ao (len i) c, .slice uo un uc, .int .i64 ((i : Int) + 1)] 111 (0, 0))) (fun vk _ => len i - (intOf vk).toNat)
      case atStart => exact ⟨0, by omega, rfl, HSA.out, HRA.out⟩
      case round =>
        rename World => wq
        obtain ⟨t, ht, rfl, hSq, hrq⟩ := hrel
        have HSQ := Lib.hid hSq
        have HRQ := Lib.hid hrq
        have k0 : wq.cell? ⟨wr.heap.size, 0, none⟩ = some (.slice ao (len i) c) := by rw [cell_of_row _ _ 0 _ _ _ hrq]; rfl
        have k2 : wq.cell? ⟨wr.heap.size, 2, none⟩ = some (.int .i64 ((i : Int) + 1)) := by rw [cell_of_row _ _ 2 _ _ _ hrq]; rfl
        have khq : wr.heap.size < wq.heap.size := lt_of_heap hrq
        by_cases htl : t < len i
        · have i2 : (0 : Int) ≤ (t : Int) := by omega
          have i3 : (t : Int) < (len i : Int) := by omega
          have hg0 : ∃ g, ao = some ⟨g, 0, none⟩ := by
            rcases (hSq.own i hlt).2 with ⟨_, h⟩ | ⟨g, c', cur, h, _⟩
            · omega
            · rw [HV.out] at h
              injection h with h1
              exact ⟨g, h1⟩
          obtain ⟨g, rfl⟩ := hg0
          have HST := Lib.hid (fun w3 (b3 : Below wq.heap.size wq w3) => fill_atHa (hSq.below b3) hB HSEP.out HX.out hlt htl HV.out)
          have hgl := HGL.out g (by rw [HV.out]; rfl)
          have HMS := Lib.hid (show (mkHa i).toArray.size = 32 by rw [List.size_toArray]; exact mk_lenHa i)
          clear hSq hrq
          go_upto_region 7 with fail
          refine wp_region_kept_tail 7 (by kernel_rfl) (by kernel_rfl) ?_
          simp only [List.take_succ_cons, List.take_zero, List.drop_succ_cons, List.drop_zero]
          iterate 5 go_big_quiet_step (fail)
          go_big_quiet_step ((go_at_call 27; rename Kept _ => x; exact Kept.call (mark_anyHa i (by omega) x.w)))
          go_big_quiet_step (fail)
          refine wpQuiet_nil ?_
          intro x
          obtain ⟨q1, _, q3⟩ := HST.out x.w x.below
          have HQ1 := Lib.hid q1
          have HQ3 := Lib.hid q3
          have HRX := Lib.hid (x.heap_old HRQ.out)
          have HNE := Lib.hid (show wr.heap.size ≠ g by omega)
          clear q1 q3 k0 k2
          generalize x.w = wx at *
          go_wp2_with (refine wpList_store_mid (by rfl) 70 (.tmp 34) (.tmp 33) (by rfl) g (t * 32) (mkHa i).toArray (by rfl) (by rfl) (by rw [HMS.out]; exact HQ1.out) (by rw [HMS.out]; exact infoEHa) (mk_allHa i) ?_)
          go_roundw
          case rel => exact ⟨t + 1, by omega, by go_num, HQ3.out, (heap_setCells_neHa g _ _ _ _ HNE.out).trans HRX.out⟩
          case measure => simp [intOf]; omega
        · obtain rfl : t = len i := by omega
          have i3 : ¬ (len i : Int) < (len i : Int) := by omega
          have hn := fillC_nextHa X len i (HX.out i hlt)
          rw [hn] at hSq
          have HSN := Lib.hid hSq
          clear hSq hrq hn
          go_wp2_with fail
          go_roundw
          case rel => exact ⟨i + 1, by omega, by go_num, HSN.out⟩
          case measure => simp [intOf]; omega
    · obtain rfl : i = m := by omega
      have i1 : ¬ (i : Int) < (i : Int) := by omega
      clear hS
      go_wp2_with fail
      go_end0
      refine ⟨rfl, HSI.out.bel, HSI.out.bs, fun j hj => ?_⟩
      have h := HSI.out.own j hj
      unfold fillCHa at h
      rw [if_pos hj] at h
      exact h
end Go.Proofs.YtlahdjdbbfjadaaGreatDoor

namespace Go.Proofs.YtlahdjdbbfjadaaGreatDoor
open Go.RowKit

set_option maxHeartbeats 2000000 in
set_option maxRecDepth 100000 in
theorem grow_anyHa (w0 w : World) (B kb tb cap m : Nat) (V U : Nat → Value) (len : Nat → Nat) (hS : GrowSHa w0 B w kb tb cap m V U len 0 0) (hB : w0.heap.size ≤ B) (hBw : B ≤ w.heap.size) (hBt : w0.heap.size ≤ tb) (hkt : kb ≠ tb) (hsep : SepHa kb tb m V) (hlen : ∀ j, j < m → len j ≤ 1048576) (hm : m ≤ 2) :
    Calls Tryz.prog 55 #[.pointer (some ⟨kb, 0, none⟩)] w fun e w' => e = .returned (.tuple #[]) ∧ ∃ U', GrowSHa w0 B w' kb tb cap m V U' len m m := by
  have HS := Lib.hid hS
  have HSEP := Lib.hid hsep
  have HLEN := Lib.hid hlen
  clear hS hsep hlen
  go_enter Tryz.func55, Tryz.ntmps55
  go_wp2_with fail
  go_loopw [2] (fun vi wr => ∃ (i : Nat) (U' : Nat → Value), i ≤ m ∧ vi = .int .i64 i ∧ B ≤ wr.heap.size ∧ GrowSHa w0 B wr kb tb cap m V U' len i i) (fun vi _ => m - (intOf vi).toNat)
  case atStart => exact ⟨0, U, by omega, rfl, hBw, HS.out⟩
  case round =>
    obtain ⟨i, U', hi, rfl, hBr, hS⟩ := hrel
    have hbk := hS.bs.bk
    have HSI := Lib.hid hS
    by_cases hlt : i < m
    · have i0 : (0 : Int) ≤ (i : Int) := by omega
      have i1 : (i : Int) < (m : Int) := by omega
      obtain ⟨e0, e1, e2⟩ := hS.bs.it i hlt
      have hob : ∃ ao c, V i = .slice ao (len i) c := by
        rcases (hS.own i (Nat.le_refl _) hlt).2 with ⟨h, hn⟩ | ⟨g, c, cur, h, _⟩
        · exact ⟨none, 0, by rw [h, hn]⟩
        · exact ⟨_, _, h⟩
      obtain ⟨ao, c, hV⟩ := hob
      obtain ⟨uo, un, uc, hUi⟩ := hS.uf i hlt
      rw [hV] at e0
      rw [hUi] at e1
      have HV := Lib.hid hV
      have hli := HLEN.out i hlt
      clear hS hV hUi
      have ba : Below wr.heap.size wr (wr.alloc (.cells #[.slice ao (len i) c, .slice uo un uc, .int .i64 ((i : Int) + 1)] 111)) := (Below.refl _ _).alloc (Nat.le_refl _) _
      have hra : (wr.alloc (.cells #[.slice ao (len i) c, .slice uo un uc, .int .i64 ((i : Int) + 1)] 111)).heap[wr.heap.size]? = some (.cells #[.slice ao (len i) c, .slice uo un uc, .int .i64 ((i : Int) + 1)] 111 (0, 0)) := heap_alloc_new wr _
      have hsza : (wr.alloc (.cells #[.slice ao (len i) c, .slice uo un uc, .int .i64 ((i : Int) + 1)] 111)).heap.size = wr.heap.size + 1 := by simp
      have hst := grow_startHa (HSI.out.below ba) hlt wr.heap.size HSEP.out (fun g hg => by have := HSI.out.vlt i hlt g hg; omega)
      have HGA := Lib.hid hst.1
      have HLA := Lib.hid hst.2
      have HRA := Lib.hid hra
      clear ba hra hst
      have q0 : (wr.alloc (.cells #[.slice ao (len i) c, .slice uo un uc, .int .i64 ((i : Int) + 1)] 111)).cell? ⟨wr.heap.size, 0, none⟩ = some (.slice ao (len i) c) := by rw [cell_of_row _ _ 0 _ _ _ HRA.out]; rfl
      go_wp2_with fail
      generalize wr.alloc (.cells #[.slice ao (len i) c, .slice uo un uc, .int .i64 ((i : Int) + 1)] 111) = wa at *
      go_loopw [4, 5] (fun vl vs wq => ∃ (s : Nat) (u : Value), s ≤ 70 ∧ vs = .int .i64 s ∧ vl = u ∧ wa.heap.size ≤ wq.heap.size ∧ GrowSHa w0 B wq kb tb cap m V U' len i (i + 1) ∧ LongSHa B wq kb tb wr.heap.size m V U' len i s u ∧ wq.heap[wr.heap.size]? = some (.cells #[.slice ao (len i) c, .slice uo un uc, .int .i64 ((i : Int) + 1)] 111 (0, 0))) (fun _ vs _ => 70 - (intOf vs).toNat)
      case atStart => exact ⟨0, V i, by omega, rfl, HV.out.symm, Nat.le_refl _, HGA.out, HLA.out, HRA.out⟩
      case round =>
        rename World => wq
        obtain ⟨s, u, hs, rfl, rfl, hszq, hG, hL, hrq⟩ := hrel
        have HGQ := Lib.hid hG
        have HLQ := Lib.hid hL
        have HRQ := Lib.hid hrq
        have k2 : wq.cell? ⟨wr.heap.size, 2, none⟩ = some (.int .i64 ((i : Int) + 1)) := by rw [cell_of_row _ _ 2 _ _ _ hrq]; rfl
        by_cases hs7 : s < 70
        · have i3 : (s : Int) < 70 := by omega
          have hl32 : (mkHa i).length = 32 := mk_lenHa i
          have hfold := fold_all (mkHa i) #[.int .u8 0, .int .u8 0, .int .u8 0, .int .u8 0, .int .u8 0, .int .u8 0, .int .u8 0, .int .u8 0, .int .u8 0, .int .u8 0, .int .u8 0, .int .u8 0, .int .u8 0, .int .u8 0, .int .u8 0, .int .u8 0, .int .u8 0, .int .u8 0, .int .u8 0, .int .u8 0, .int .u8 0, .int .u8 0, .int .u8 0, .int .u8 0, .int .u8 0, .int .u8 0, .int .u8 0, .int .u8 0, .int .u8 0, .int .u8 0, .int .u8 0, .int .u8 0] (by rw [mk_lenHa]; rfl)
          clear hG hL hrq
          go_wp2_with fail
          refine (mark_anyHa i (by omega) _).mono ?_
          first
            | rintro e w3 rfl b3
            | rintro e w3 ⟨rfl, b3⟩
          have b4 : Below w3.heap.size w3 (w3.alloc (.cells (mkHa i).toArray 70)) := (Below.refl _ _).alloc (Nat.le_refl _) _
          have HG4 := Lib.hid ((HGQ.out.below b3).below b4)
          have HL4 := Lib.hid ((HLQ.out.below b3).below b4)
          have HR4 := Lib.hid (below_heap b4 (below_heap b3 HRQ.out))
          have HNEW := Lib.hid (show ∀ j u, (mkHa i)[j]? = some u → (w3.alloc (.cells (mkHa i).toArray 70)).cell? ((⟨w3.heap.size, 0, none⟩ : Addr).add j) = some u from fun j u hj => by
            rw [addr0Ha]
            exact cell_of (heap_one w3 _) j (by rw [List.getElem?_toArray]; exact hj))
          have hs4 : (w3.alloc (.cells (mkHa i).toArray 70)).heap.size = w3.heap.size + 1 := by simp
          have hsz3 := b3.size
          clear b3 b4
          go_wp2_with (at_builtin; refine wpList_append_oneHa rfl (.tmp 28) (.tmp 32) rfl (B := B) (n := len i + s) rfl HL4.out.own rfl (mk_lenHa i) (mk_oneHa i) HNEW.out (by omega) (by have := hs4; omega) ?_)
          intro v' W5 g1 g2 g3 g4
          have hs5 : (w3.alloc (.cells (mkHa i).toArray 70)).heap.size = w3.heap.size + 1 := by simp
          clear hfold hl32
          generalize w3.alloc (.cells (mkHa i).toArray 70) = wb at *
          rw [← hs5] at g3 g4
          obtain ⟨j1, j2, j3⟩ := grow_appendHa HG4.out (by omega) HL4.out hB (by omega) (by omega) g1 g2 g3 g4
          have HG5 := Lib.hid j1
          have HL5 := Lib.hid j2
          have HR5 := Lib.hid (j3.trans HR4.out)
          have hsz5 := g2.size
          clear j1 j2 j3 g1 g2 g3 g4
          go_wp2_with fail
          go_roundw
          case rel => exact ⟨s + 1, v', by omega, by go_num, rfl, by omega, HG5.out, HL5.out, HR5.out⟩
          case measure => simp [intOf]; omega
        · obtain rfl : s = 70 := by omega
          obtain ⟨g, c', rfl, hge⟩ := grow_endHa hG hL hlt hkt hBt HSEP.out
          have hbq := hG.bs.bk
          obtain ⟨x0, x1, x2⟩ := hG.bs.it i hlt
          have hfz := hG.bs.fz (i * 3 + 1)
          have HGE := Lib.hid hge
          clear hG hL hrq hge x0 x2
          go_wp2_with fail
          go_roundw
          case rel => exact ⟨i + 1, _, by omega, by go_num, by simp; omega, HGE.out⟩
          case measure => simp [intOf]; omega
    · obtain rfl : i = m := by omega
      have i1 : ¬ (i : Int) < (i : Int) := by omega
      clear hS
      go_wp2_with fail
      go_end0
      exact ⟨rfl, U', HSI.out⟩

/-- An element is read, in any such world. -/
theorem wpQuiet_loadHa {ops : Array Oper} {W : World} {Q : Act → Prop} {rest : List Oper} {a : Act} {o : Oper} (hw : Region.wanted o (yielded ops a.tmps) = true) (x : Operand) (ho : o.op = .load 70 x)
    (g off : Nat) (hx : a.eval x = .pointer (some ⟨g, off, none⟩)) (l : List Value) (hl : l.length = 32) (hr : W.rangeAt g off l)
    (h : wpQuiet Tryz.prog ops (fun w' => ∃ x : Kept W, w' = x.w) Q rest (a.put o.dst (.agg l.toArray))) : wpQuiet Tryz.prog ops (fun w' => ∃ x : Kept W, w' = x.w) Q (o :: rest) a :=
  wpQuiet_step fun K hK => by
    rw [if_pos hw]
    refine ⟨.agg l.toArray, fun w hw => ?_, hK _ h⟩
    obtain ⟨y, rfl⟩ := hw
    have hr' : y.w.rangeAt g off l := range_belowHa y.below hr
    unfold Oper.quietAt execOp
    simp only [ho, hx, Instr.loadAt, Instr.sureAddr, Sem.run_bind, Sem.run_pure, Result.andThen_ok, run_loadVar_mid y.w g off 70 l _ hr' Tryz.underlying70 rfl (by rw [infoEHa, hl])]
    exact ⟨rfl, rfl⟩
set_option maxHeartbeats 4000000 in
set_option maxRecDepth 100000 in
theorem look_anyHa (w0 w : World) (B kb tb cap m : Nat) (V U : Nat → Value) (len : Nat → Nat) (hS : GrowSHa w0 B w kb tb cap m V U len m m) (hV : ∀ i, i < m → ∃ ao c, V i = .slice ao (len i) c ∧ (0 < len i → ∃ g, ao = some ⟨g, 0, none⟩)) (hlen : ∀ j, j < m → len j ≤ 1048576) (hm : m ≤ 2) :
    Calls Tryz.prog 71 #[.pointer (some ⟨kb, 0, none⟩)] w fun e w' => e = .returned (.bool true) ∧ Below w.heap.size w w' := by
  have hbk := hS.bs.bk
  have HS := Lib.hid hS
  have HVF := Lib.hid hV
  have HLEN := Lib.hid hlen
  clear hS hlen hV
  go_enter Tryz.func71, Tryz.ntmps71
  go_wp2_with fail
  go_loopw [3] (fun vi wr => ∃ i : Nat, i ≤ m ∧ vi = .int .i64 i ∧ Below w.heap.size w wr) (fun vi _ => m - (intOf vi).toNat)
  case atStart => exact ⟨0, by omega, rfl, Below.refl _ _⟩
  case round =>
    obtain ⟨i, hi, rfl, hbr⟩ := hrel
    have HSR := Lib.hid (HS.out.below hbr)
    have hbk := HSR.out.bs.bk
    have HBR := Lib.hid hbr
    clear hbr
    by_cases hlt : i < m
    · have i0 : (0 : Int) ≤ (i : Int) := by omega
      have i1 : (i : Int) < (m : Int) := by omega
      obtain ⟨e0, e1, e2⟩ := HSR.out.bs.it i hlt
      obtain ⟨ao, c, hV, hao⟩ := HVF.out i hlt
      obtain ⟨ug, uc, hU, hug, hul, _⟩ := HSR.out.lng i hlt
      rw [hV] at e0
      rw [hU] at e1
      have HV := Lib.hid hV
      have HAO := Lib.hid hao
      have HUL := Lib.hid hul
      have hli := HLEN.out i hlt
      clear hV hU hao hul
      have ba : Below wr.heap.size wr (wr.alloc (.cells #[.slice ao (len i) c, .slice (some ⟨ug, 0, none⟩) (len i + 70) uc, .int .i64 ((i : Int) + 1)] 111)) := (Below.refl _ _).alloc (Nat.le_refl _) _
      have hra : (wr.alloc (.cells #[.slice ao (len i) c, .slice (some ⟨ug, 0, none⟩) (len i + 70) uc, .int .i64 ((i : Int) + 1)] 111)).heap[wr.heap.size]? = some (.cells #[.slice ao (len i) c, .slice (some ⟨ug, 0, none⟩) (len i + 70) uc, .int .i64 ((i : Int) + 1)] 111 (0, 0)) := heap_alloc_new wr _
      have HRA := Lib.hid hra
      have HBA := Lib.hid ba
      have il : (((len i + 70 : Nat) : Int) != (len i : Int) + 70) = false := by simp
      have il' : (((len i : Int) + 70) != (len i : Int) + 70) = false := by simp
      clear ba hra
      go_wp2_with fail
      generalize wr.alloc (.cells #[.slice ao (len i) c, .slice (some ⟨ug, 0, none⟩) (len i + 70) uc, .int .i64 ((i : Int) + 1)] 111) = wa at *
      go_loopw [5] (fun vk wq => ∃ t : Nat, t ≤ len i + 70 ∧ vk = .int .i64 t ∧ Below wa.heap.size wa wq) (fun vk _ => len i + 70 - (intOf vk).toNat)
      case atStart => exact ⟨0, by omega, rfl, Below.refl _ _⟩
      case round =>
        rename World => wq
        obtain ⟨t, ht, rfl, hbq⟩ := hrel
        have hrq := below_heap hbq HRA.out
        have dq : Below wr.heap.size wr wq := below_trans HBA.out hbq
        have k0 : wq.cell? ⟨wr.heap.size, 0, none⟩ = some (.slice ao (len i) c) := by rw [cell_of_row _ _ 0 _ _ _ hrq]; rfl
        have k1 : wq.cell? ⟨wr.heap.size, 1, none⟩ = some (.slice (some ⟨ug, 0, none⟩) (len i + 70) uc) := by rw [cell_of_row _ _ 1 _ _ _ hrq]; rfl
        have k2 : wq.cell? ⟨wr.heap.size, 2, none⟩ = some (.int .i64 ((i : Int) + 1)) := by rw [cell_of_row _ _ 2 _ _ _ hrq]; rfl
        have khq : wr.heap.size < wq.heap.size := lt_of_heap hrq
        have HBQ := Lib.hid hbq
        by_cases htl : t < len i + 70
        · have i2 : (0 : Int) ≤ (t : Int) := by omega
          have i3 : (t : Int) < ((len i + 70 : Nat) : Int) := by omega
          have i3' : (t : Int) < (len i : Int) + 70 := by omega
          have KL := Lib.hid (show wq.rangeAt ug (t * 32) (mkHa i) from range_belowHa dq (HUL.out t htl))
          by_cases hv : t < len i
          · obtain ⟨vg, rfl⟩ := HAO.out (by omega)
            have i4 : (t : Int) < (len i : Int) := by omega
            have KV := Lib.hid (show wq.rangeAt vg (t * 32) (mkHa i) from range_belowHa dq (HSR.out.rd i hlt vg t (by rw [HV.out]; rfl) hv))
            clear hrq dq hbq
            go_upto_region 10 with fail
            refine wp_region_kept (by kernel_rfl) (by kernel_rfl) ?_
            iterate 4 go_big_quiet_step (fail)
            refine wpQuiet_loadHa (by rfl) (.tmp 40) (by rfl) ug (t * 32) (by rfl) (mkHa i) (mk_lenHa i) KL.out ?_
            simp only [Act.put, List.setIfInBounds_toArray, List.set_cons_zero, List.set_cons_succ]
            iterate 2 go_big_quiet_step (fail)
            go_big_quiet_step ((go_at_call 33; rename Kept _ => x; exact Kept.call (is_anyHa i (by omega) x.w)))
            iterate 12 go_big_quiet_step (fail)
            refine wpQuiet_loadHa (by rfl) (.tmp 56) (by rfl) vg (t * 32) (by rfl) (mkHa i) (mk_lenHa i) KV.out ?_
            simp only [Act.put, List.setIfInBounds_toArray, List.set_cons_zero, List.set_cons_succ]
            iterate 2 go_big_quiet_step (fail)
            go_big_quiet_step ((go_at_call 33; rename Kept _ => x; exact Kept.call (is_anyHa i (by omega) x.w)))
            iterate 3 go_big_quiet_step (fail)
            refine wpQuiet_nil ?_
            intro x
            have HBX := Lib.hid (HBQ.out.trans (x.below.mono HBQ.out.size))
            clear k0 k1 k2
            go_wp2_with fail
            go_roundw
            case rel => exact ⟨t + 1, by omega, by go_num, HBX.out⟩
            case measure => simp [intOf]; omega
          · have i4 : ¬ (t : Int) < (len i : Int) := by omega
            clear hrq dq hbq
            go_upto_region 10 with fail
            refine wp_region_kept (by kernel_rfl) (by kernel_rfl) ?_
            iterate 4 go_big_quiet_step (fail)
            refine wpQuiet_loadHa (by rfl) (.tmp 40) (by rfl) ug (t * 32) (by rfl) (mkHa i) (mk_lenHa i) KL.out ?_
            simp only [Act.put, List.setIfInBounds_toArray, List.set_cons_zero, List.set_cons_succ]
            iterate 2 go_big_quiet_step (fail)
            go_big_quiet_step ((go_at_call 33; rename Kept _ => x; exact Kept.call (is_anyHa i (by omega) x.w)))
            iterate 19 go_big_quiet_step (fail)
            refine wpQuiet_nil ?_
            intro x
            have HBX := Lib.hid (HBQ.out.trans (x.below.mono HBQ.out.size))
            clear k0 k1 k2
            go_wp2_with fail
            go_roundw
            case rel => exact ⟨t + 1, by omega, by go_num, HBX.out⟩
            case measure => simp [intOf]; omega
        · obtain rfl : t = len i + 70 := by omega
          have i3 : ¬ ((len i + 70 : Nat) : Int) < ((len i + 70 : Nat) : Int) := by omega
          have i3' : ¬ (len i : Int) + 70 < (len i : Int) + 70 := by omega
          have HDQ := Lib.hid (HBR.out.trans (dq.mono HBR.out.size))
          clear hrq dq hbq
          go_wp2_with fail
          go_roundw
          case rel => exact ⟨i + 1, by omega, by go_num, HDQ.out⟩
          case measure => simp [intOf]; omega
    · obtain rfl : i = m := by omega
      have i1 : ¬ (i : Int) < (i : Int) := by omega
      go_wp2_with fail
      go_ret
      exact ⟨rfl, HBR.out⟩
end Go.Proofs.YtlahdjdbbfjadaaGreatDoor

namespace Go.Proofs.YtlahdjdbbfjadaaGreatDoor
open Go.RowKit

theorem infoHeldHa : (Tryz.prog.info? 111).map (fun i => (i.zero, i.size, i.bytes)) = some (some (.agg #[.slice none 0 0, .slice none 0 0, .int .i64 0]), 3, 56) := by kernel_rfl
def heldCellsHa (V : Nat → Value) (m : Nat) : List Value := (List.range m).flatMap fun i => [V i, .slice none 0 0, .int .i64 ((i : Int) + 1)]
theorem heldCells_succHa (V : Nat → Value) (m : Nat) : heldCellsHa V (m + 1) = heldCellsHa V m ++ [V m, .slice none 0 0, .int .i64 ((m : Int) + 1)] := by
  unfold heldCellsHa
  rw [List.range_succ, List.flatMap_append]
  simp
/-- The book while lists are put in. -/
structure KeepSHa (w0 w : World) (kb m : Nat) (tv : Value) (V : Nat → Value) : Prop where
  bel : Below w0.heap.size w0 w
  n : w.cell? ⟨kb, 0, none⟩ = some (.int .i64 (m : Int))
  tx : w.cell? ⟨kb, 5, none⟩ = some tv
  nl : ∀ j, 1 ≤ j → j ≤ 16 → j ≠ 5 → w.cell? ⟨kb, j, none⟩ = some (.slice none 0 0)
  fz : ∀ j, w.frozen? ⟨kb, j, none⟩ = false
  lt : w0.heap.size ≤ kb ∧ kb < w.heap.size
  own : w.ownsRow (kb + 1) 111 3 tv m (heldCellsHa V m)
theorem step_append_heldHa {ops : Array Oper} {o : Oper} {a : Act} {K : Act → World → Prop} {Q : Exit → Act → World → Prop} {E : Prop} (hgd : o.guard = none) (s x : Operand)
    (ho : o.op = .call { callee := .builtin .append, args := #[s, x], argTypes := #[43, 43] }) {W : World} {B m : Nat} {v : Value} {xs news : List Value} {ad : Addr}
    (hs : a.eval s = v) (hown : W.ownsRow B 111 3 v m xs) (hx : a.eval x = .slice (some ad) 1 1) (hl : news.length = 3) (hnews : ∀ j u, news[j]? = some u → W.cell? (ad.add j) = some u) (h1 : ∀ u ∈ news, u.oneCell' = true) (hm : m ≤ 1000) (hB : B ≤ W.heap.size)
    (h : ∀ v' W', W'.ownsRow B 111 3 v' (m + 1) (xs ++ news) → W.grownBy W' v.ownBlock → K (a.put o.dst v') W') :
    if Region.wanted o (yielded ops a.tmps) = true then Oper.wp Tryz.prog o a W K Q else E := by
  have hw : Region.wanted o (yielded ops a.tmps) = true := by simp [Region.wanted, hgd]
  rw [if_pos hw]
  obtain ⟨i0, hi, hz⟩ := Option.map_eq_some_iff.1 infoHeldHa
  simp only [Prod.mk.injEq] at hz
  obtain ⟨hz0, hz1, hz2⟩ := hz
  obtain ⟨v', W', hr, h2, h3, _, _⟩ := run_append_own_at (P := Tryz.prog) W B 43 o.type 111 i0 _ 3 56 Tryz.underlying43 hi hz0 hz1 hz2 rfl (by decide) v m xs hown ad 1 1 news hl hnews h1 (by unfold maxLen; omega) (by omega) hB
  unfold Oper.wp execOp
  simp only [ho, resolve, invoke, builtin, Sem.run_bind, Sem.run_pure, Result.andThen_ok, List.map_toArray, List.map_cons, List.map_nil, hs, hx, hr]
  exact h v' W' h2 h3
theorem keep_allocHa {w : World} {v : Value} {m : Nat} : ∀ j u, [v, Value.slice none 0 0, .int .i64 ((m : Int) + 1)][j]? = some u → (w.alloc (.cells #[v, .slice none 0 0, .int .i64 ((m : Int) + 1)] 111)).cell? ((⟨w.heap.size, 0, none⟩ : Addr).add j) = some u := fun j u hj => by
  have ha : (⟨w.heap.size, 0, none⟩ : Addr).add j = ⟨w.heap.size, j, none⟩ := by simp [Addr.add]; intro h; exact h.symm
  rw [ha, cell_of_row _ _ j _ _ _ (heap_alloc_new w _)]
  simpa using hj
/-- What the call leaves. -/
theorem keep_endHa {w0 w Wd W5 : World} {kb m : Nat} {tv v' : Value} {V : Nat → Value} (hS : KeepSHa w0 w kb m tv V) (hbelow : Below (w.setCell ⟨kb, 0, none⟩ (.int .i64 ((m : Int) + 1))).heap.size (w.setCell ⟨kb, 0, none⟩ (.int .i64 ((m : Int) + 1))) Wd)
    (h2 : W5.ownsRow (kb + 1) 111 3 v' (m + 1) (heldCellsHa V m ++ [V m, .slice none 0 0, .int .i64 ((m : Int) + 1)])) (h3 : Wd.grownBy W5 tv.ownBlock) :
    (∃ u, W5.cell? ⟨kb, 5, none⟩ = some u) ∧ W5.frozen? ⟨kb, 5, none⟩ = false ∧ KeepSHa w0 (W5.setCell ⟨kb, 5, none⟩ v') kb (m + 1) v' V := by
  have hsz : (w.setCell ⟨kb, 0, none⟩ (.int .i64 ((m : Int) + 1))).heap.size = w.heap.size := by simp
  have hlw := hS.lt.2
  have c0 : (w.setCell ⟨kb, 0, none⟩ (.int .i64 ((m : Int) + 1))).cell? ⟨kb, 0, none⟩ = some (.int .i64 ((m : Int) + 1)) := World.cell?_setCell_same' w _ _ (by rw [hS.n]; rfl)
  have cj : ∀ j, 1 ≤ j → (w.setCell ⟨kb, 0, none⟩ (.int .i64 ((m : Int) + 1))).cell? ⟨kb, j, none⟩ = w.cell? ⟨kb, j, none⟩ := fun j hj =>
    World.cell?_setCells_out kb [.int .i64 ((m : Int) + 1)] 0 w ⟨kb, j, none⟩ (fun _ _ => by simp only [List.length_cons, List.length_nil]; omega)
  have hkd : kb < Wd.heap.size := by have := hbelow.size; omega
  have hne : tv.ownBlock ≠ some kb := fun e => by have := (hS.own.lt kb e).1; omega
  have hb5 : W5.heap[kb]? = Wd.heap[kb]? := h3.block kb hkd (fun e => hne e.symm)
  have hcd : ∀ j, Wd.cell? ⟨kb, j, none⟩ = (w.setCell ⟨kb, 0, none⟩ (.int .i64 ((m : Int) + 1))).cell? ⟨kb, j, none⟩ := fun j => World.cell?_of_block (hbelow.block kb (by rw [hsz]; exact hlw))
  have hc5 : ∀ j, W5.cell? ⟨kb, j, none⟩ = (w.setCell ⟨kb, 0, none⟩ (.int .i64 ((m : Int) + 1))).cell? ⟨kb, j, none⟩ := fun j => (World.cell?_of_block hb5).trans (hcd j)
  have hf5 : ∀ j, W5.frozen? ⟨kb, j, none⟩ = false := fun j => by
    rw [World.frozen?_of_block (w := Wd) hb5, World.frozen?_of_block (w := w.setCell ⟨kb, 0, none⟩ (.int .i64 ((m : Int) + 1))) (hbelow.block kb (by rw [hsz]; exact hlw)), World.frozen?_setCell]
    exact hS.fz j
  have c3 : W5.cell? ⟨kb, 5, none⟩ = some tv := by rw [hc5, cj 5 (by omega)]; exact hS.tx
  have cs : ∀ j, j ≠ 5 → (W5.setCell ⟨kb, 5, none⟩ v').cell? ⟨kb, j, none⟩ = W5.cell? ⟨kb, j, none⟩ := fun j hj =>
    World.cell?_setCells_out kb [v'] 5 W5 ⟨kb, j, none⟩ (fun _ _ => by simp only [List.length_cons, List.length_nil]; omega)
  have hs5 : (W5.setCell ⟨kb, 5, none⟩ v').heap.size = W5.heap.size := by simp
  refine ⟨⟨_, c3⟩, hf5 5, ⟨?_, ?_, ?_, ?_, ?_, ?_, ?_⟩⟩
  · refine Below.setCell ?_ (p := ⟨kb, 5, none⟩) hS.lt.1 _
    refine ((hS.bel.setCell (p := ⟨kb, 0, none⟩) hS.lt.1 (.int .i64 ((m : Int) + 1))).trans (hbelow.mono (by rw [hsz]; exact hS.bel.size))).grown h3 (by have := hS.lt; omega) fun g hg => ?_
    have := (hS.own.lt g hg).1
    have := hS.lt.1
    omega
  · rw [cs 0 (by omega), hc5, c0]
    exact congrArg (fun z => some (Value.int .i64 z)) (by omega)
  · exact World.cell?_setCell_same' W5 _ _ (by rw [c3]; rfl)
  · intro j x1 x2 x3
    rw [cs j x3, hc5, cj j x1]
    exact hS.nl j x1 x2 x3
  · intro j
    rw [World.frozen?_setCell]
    exact hf5 j
  · have := h3.size
    exact ⟨hS.lt.1, by rw [hs5]; omega⟩
  · rw [heldCells_succHa]
    exact rowKeepHa h2 fun g hg => heap_setCell_other W5 _ g _ (fun e => by
      have := (h2.lt g hg).1
      have e2 : g = kb := e
      omega)

set_option maxHeartbeats 4000000 in
set_option maxRecDepth 100000 in
theorem keepOne_anyHa (w0 w : World) (kb m : Nat) (tv : Value) (V : Nat → Value) (hS : KeepSHa w0 w kb m tv V) (hv1 : ∃ ao n c, V m = .slice ao n c) (hm : m ≤ 1000) :
    Calls Tryz.prog 34 #[.pointer (some ⟨kb, 0, none⟩), V m] w fun e w' => e = .returned (.tuple #[]) ∧ ∃ tv', KeepSHa w0 w' kb (m + 1) tv' V := by
  have n0 := hS.n
  have f0 := hS.fz 0
  have HS := Lib.hid hS
  have hsz : (w.setCell ⟨kb, 0, none⟩ (.int .i64 ((m : Int) + 1))).heap.size = w.heap.size := by simp
  have hlw := hS.lt.2
  have c0 : (w.setCell ⟨kb, 0, none⟩ (.int .i64 ((m : Int) + 1))).cell? ⟨kb, 0, none⟩ = some (.int .i64 ((m : Int) + 1)) := World.cell?_setCell_same' w _ _ (by rw [hS.n]; rfl)
  have c3 : (w.setCell ⟨kb, 0, none⟩ (.int .i64 ((m : Int) + 1))).cell? ⟨kb, 5, none⟩ = some tv :=
    (World.cell?_setCells_out kb [.int .i64 ((m : Int) + 1)] 0 w ⟨kb, 5, none⟩ (fun _ _ => by simp only [List.length_cons, List.length_nil]; omega)).trans hS.tx
  have hown : (w.setCell ⟨kb, 0, none⟩ (.int .i64 ((m : Int) + 1))).ownsRow (kb + 1) 111 3 tv m (heldCellsHa V m) := rowKeepHa hS.own fun g hg => heap_setCell_other w _ g _ (fun e => by
    have := (hS.own.lt g hg).1
    have e2 : g = kb := e
    omega)
  have HE := Lib.hid (fun Wd W5 v' => keep_endHa (Wd := Wd) (W5 := W5) (v' := v') hS)
  obtain ⟨ao, vn, vc, hvm⟩ := hv1
  have HVM := Lib.hid hvm
  rw [hvm]
  clear hS hvm
  go_enter Tryz.func34, Tryz.ntmps34
  go_upto_region 1 with fail
  generalize w.setCell ⟨kb, 0, none⟩ (.int .i64 ((m : Int) + 1)) = Ws at *
  have hkw : kb < Ws.heap.size := by omega
  have cd0 : Ws.drew.cell? ⟨kb, 0, none⟩ = some (.int .i64 ((m : Int) + 1)) := c0
  have cd3 : Ws.drew.cell? ⟨kb, 5, none⟩ = some tv := c3
  have hbd : Below Ws.heap.size Ws (Ws.drew.alloc (.cells #[.slice ao vn vc, .slice none 0 0, .int .i64 ((m : Int) + 1)] 111)) := ((Below.refl _ _).drew).alloc (Nat.le_refl _) _
  have ca3 : (Ws.drew.alloc (.cells #[.slice ao vn vc, .slice none 0 0, .int .i64 ((m : Int) + 1)] 111)).cell? ⟨kb, 5, none⟩ = some tv := below_cell hbd c3
  have hown4 : (Ws.drew.alloc (.cells #[.slice ao vn vc, .slice none 0 0, .int .i64 ((m : Int) + 1)] 111)).ownsRow (kb + 1) 111 3 tv m (heldCellsHa V m) := own_belowHa hown hbd
  have HOWN := Lib.hid hown4
  have HBD := Lib.hid hbd
  have hws : Ws.drew.heap.size = w.heap.size := hsz
  have hBw : kb + 1 ≤ (Ws.drew.alloc (.cells #[.slice ao vn vc, .slice none 0 0, .int .i64 ((m : Int) + 1)] 111)).heap.size := by have := hbd.size; omega
  have hnw := (keep_allocHa (w := Ws.drew) (v := .slice ao vn vc) (m := m))
  rw [hws] at hnw
  have HNW := Lib.hid hnw
  clear hown hown4 hbd hnw
  refine wp_region_any (by kernel_rfl) ?_
  change wpAny _ _ _ _ _ _ _ (World.drew _)
  refine wpAny_take (i := 0) (v := .pointer (some ⟨kb, 0, none⟩)) rfl (by kernel_rfl) (by kernel_rfl) (by kernel_rfl) (fun _ _ _ h => h) (Or.inl ⟨by rfl, ?_⟩) ?_
  · intro w
    go_simp
  simp only [List.getElem_toArray, List.getElem_cons_zero, Act.put, List.setIfInBounds_toArray, List.set_cons_zero, List.set_cons_succ]
  refine wpAny_take (i := 1) (v := .pointer (some ⟨kb, 0, none⟩)) rfl (by kernel_rfl) (by kernel_rfl) (by kernel_rfl) (fun _ _ _ h => h) (Or.inl ⟨by rfl, ?_⟩) ?_
  · intro w
    go_simp
  simp only [List.getElem_toArray, List.getElem_cons_succ, List.getElem_cons_zero, Act.put, List.setIfInBounds_toArray, List.set_cons_zero, List.set_cons_succ]
  refine wpAny_take (i := 2) (v := .pointer (some ⟨kb, 0, none⟩)) rfl (by kernel_rfl) (by kernel_rfl) (by kernel_rfl) (fun _ _ _ h => h) (Or.inl ⟨by rfl, ?_⟩) ?_
  · intro w
    go_simp
  simp only [List.getElem_toArray, List.getElem_cons_succ, List.getElem_cons_zero, Act.put, List.setIfInBounds_toArray, List.set_cons_zero, List.set_cons_succ]
  refine wpAny_take (i := 3) (v := .pointer (some ⟨kb, 5, none⟩)) rfl (by kernel_rfl) (by kernel_rfl) (by kernel_rfl) (fun _ _ _ h => h) (Or.inl ⟨by rfl, ?_⟩) ?_
  · intro w
    go_simp
  simp only [List.getElem_toArray, List.getElem_cons_succ, List.getElem_cons_zero, Act.put, List.setIfInBounds_toArray, List.set_cons_zero, List.set_cons_succ]
  refine wpAny_take (i := 5) (v := .slice ao vn vc) rfl (by kernel_rfl) (by kernel_rfl) (by kernel_rfl) (fun _ _ _ h => h) (Or.inl ⟨by rfl, ?_⟩) ?_
  · intro w
    go_simp
  simp only [List.getElem_toArray, List.getElem_cons_succ, List.getElem_cons_zero, Act.put, List.setIfInBounds_toArray, List.set_cons_zero, List.set_cons_succ]
  refine wpAny_take (i := 6) (v := .pointer (some ⟨kb, 0, none⟩)) rfl (by kernel_rfl) (by kernel_rfl) (by kernel_rfl) (fun _ _ _ h => h) (Or.inl ⟨by rfl, ?_⟩) ?_
  · intro w
    go_simp
  simp only [List.getElem_toArray, List.getElem_cons_succ, List.getElem_cons_zero, Act.put, List.setIfInBounds_toArray, List.set_cons_zero, List.set_cons_succ]
  refine wpAny_take (i := 7) (v := .pointer (some ⟨kb, 0, none⟩)) rfl (by kernel_rfl) (by kernel_rfl) (by kernel_rfl) (fun _ _ _ h => h) (Or.inl ⟨by rfl, ?_⟩) ?_
  · intro w
    go_simp
  simp only [List.getElem_toArray, List.getElem_cons_succ, List.getElem_cons_zero, Act.put, List.setIfInBounds_toArray, List.set_cons_zero, List.set_cons_succ]
  refine wpAny_take (i := 8) (v := .pointer (some ⟨kb, 0, none⟩)) rfl (by kernel_rfl) (by kernel_rfl) (by kernel_rfl) (fun _ _ _ h => h) (Or.inl ⟨by rfl, ?_⟩) ?_
  · intro w
    go_simp
  simp only [List.getElem_toArray, List.getElem_cons_succ, List.getElem_cons_zero, Act.put, List.setIfInBounds_toArray, List.set_cons_zero, List.set_cons_succ]
  refine wpAny_ready (rs := [4, 9]) (by kernel_rfl) (by simp) ?_
  refine AllReady.cons rfl (fun K hK => ?_) (AllReady.cons rfl (fun K hK => ?_) AllReady.nil)
  · go_simp
    refine hK _ _ ?_
    clear hK K
    refine wpAny_ready (rs := [9]) (by kernel_rfl) (by simp) ?_
    refine AllReady.cons rfl (fun K hK => ?_) AllReady.nil
    go_simp
    refine hK _ _ ?_
    clear hK K
    refine wpAny_take (i := 10) (v := .agg #[.slice ao vn vc, .slice none 0 0, .int .i64 ((m : Int) + 1)]) rfl (by kernel_rfl) (by kernel_rfl) (by kernel_rfl) (fun _ _ _ h => h) (Or.inl ⟨by rfl, ?_⟩) ?_
    · intro w
      go_simp
    simp only [List.getElem_toArray, List.getElem_cons_succ, List.getElem_cons_zero, Act.put, List.setIfInBounds_toArray, List.set_cons_zero, List.set_cons_succ]
    refine wpAny_ready (rs := [11]) (by kernel_rfl) (by simp) ?_
    refine AllReady.cons rfl (fun K hK => ?_) AllReady.nil
    go_simp
    refine hK _ _ ?_
    clear hK K
    refine wpAny_ready (rs := [12]) (by kernel_rfl) (by simp) ?_
    refine AllReady.cons rfl (fun K hK => ?_) AllReady.nil
    refine step_append_heldHa (by rfl) (.tmp 15) (.tmp 22) (by rfl) (by rfl) HOWN.out (by rfl) rfl HNW.out (by intro u hu; simp at hu; rcases hu with rfl | rfl | rfl <;> rfl) hm hBw ?_
    intro v' W5 h2 h3
    obtain ⟨vo, vk, vq, rfl⟩ : ∃ ao n c, v' = .slice ao n c := by rcases h2.2 with ⟨h, _⟩ | ⟨_, _, _, h, _⟩ <;> exact ⟨_, _, _, h⟩
    rw [← HVM.out] at h2
    obtain ⟨⟨u, q1⟩, q2, q3⟩ := HE.out _ W5 (.slice vo vk vq) HBD.out h2 h3
    have HQ := Lib.hid q3
    clear q3 h2 h3
    refine hK _ _ ?_
    clear hK K
    refine wpAny_take (i := 13) (v := .pointer (some ⟨kb, 0, none⟩)) rfl (by kernel_rfl) (by kernel_rfl) (by kernel_rfl) (fun _ _ _ h => h) (Or.inl ⟨by rfl, ?_⟩) ?_
    · intro w
      go_simp
    simp only [List.getElem_toArray, List.getElem_cons_succ, List.getElem_cons_zero, Act.put, List.setIfInBounds_toArray, List.set_cons_zero, List.set_cons_succ]
    refine wpAny_take (i := 14) (v := .pointer (some ⟨kb, 5, none⟩)) rfl (by kernel_rfl) (by kernel_rfl) (by kernel_rfl) (fun _ _ _ h => h) (Or.inl ⟨by rfl, ?_⟩) ?_
    · intro w
      go_simp
    simp only [List.getElem_toArray, List.getElem_cons_succ, List.getElem_cons_zero, Act.put, List.setIfInBounds_toArray, List.set_cons_zero, List.set_cons_succ]
    refine wpAny_ready (rs := [15]) (by kernel_rfl) (by simp) ?_
    refine AllReady.cons rfl (fun K hK => ?_) AllReady.nil
    go_simp
    refine hK _ _ ?_
    clear hK K
    refine wpAny_done (by kernel_rfl) ?_ _
    go_end0
    exact ⟨rfl, _, HQ.out⟩
  · go_simp
    refine hK _ _ ?_
    clear hK K
    refine wpAny_take (i := 10) (v := .agg #[.slice ao vn vc, .slice none 0 0, .int .i64 ((m : Int) + 1)]) rfl (by kernel_rfl) (by kernel_rfl) (by kernel_rfl) (fun _ _ _ h => h) (Or.inl ⟨by rfl, ?_⟩) ?_
    · intro w
      go_simp
    simp only [List.getElem_toArray, List.getElem_cons_succ, List.getElem_cons_zero, Act.put, List.setIfInBounds_toArray, List.set_cons_zero, List.set_cons_succ]
    refine wpAny_ready (rs := [4, 11]) (by kernel_rfl) (by simp) ?_
    refine AllReady.cons rfl (fun K hK => ?_) (AllReady.cons rfl (fun K hK => ?_) AllReady.nil)
    · go_simp
      refine hK _ _ ?_
      clear hK K
      refine wpAny_ready (rs := [11]) (by kernel_rfl) (by simp) ?_
      refine AllReady.cons rfl (fun K hK => ?_) AllReady.nil
      go_simp
      refine hK _ _ ?_
      clear hK K
      refine wpAny_ready (rs := [12]) (by kernel_rfl) (by simp) ?_
      refine AllReady.cons rfl (fun K hK => ?_) AllReady.nil
      refine step_append_heldHa (by rfl) (.tmp 15) (.tmp 22) (by rfl) (by rfl) HOWN.out (by rfl) rfl HNW.out (by intro u hu; simp at hu; rcases hu with rfl | rfl | rfl <;> rfl) hm hBw ?_
      intro v' W5 h2 h3
      obtain ⟨vo, vk, vq, rfl⟩ : ∃ ao n c, v' = .slice ao n c := by rcases h2.2 with ⟨h, _⟩ | ⟨_, _, _, h, _⟩ <;> exact ⟨_, _, _, h⟩
      rw [← HVM.out] at h2
      obtain ⟨⟨u, q1⟩, q2, q3⟩ := HE.out _ W5 (.slice vo vk vq) HBD.out h2 h3
      have HQ := Lib.hid q3
      clear q3 h2 h3
      refine hK _ _ ?_
      clear hK K
      refine wpAny_take (i := 13) (v := .pointer (some ⟨kb, 0, none⟩)) rfl (by kernel_rfl) (by kernel_rfl) (by kernel_rfl) (fun _ _ _ h => h) (Or.inl ⟨by rfl, ?_⟩) ?_
      · intro w
        go_simp
      simp only [List.getElem_toArray, List.getElem_cons_succ, List.getElem_cons_zero, Act.put, List.setIfInBounds_toArray, List.set_cons_zero, List.set_cons_succ]
      refine wpAny_take (i := 14) (v := .pointer (some ⟨kb, 5, none⟩)) rfl (by kernel_rfl) (by kernel_rfl) (by kernel_rfl) (fun _ _ _ h => h) (Or.inl ⟨by rfl, ?_⟩) ?_
      · intro w
        go_simp
      simp only [List.getElem_toArray, List.getElem_cons_succ, List.getElem_cons_zero, Act.put, List.setIfInBounds_toArray, List.set_cons_zero, List.set_cons_succ]
      refine wpAny_ready (rs := [15]) (by kernel_rfl) (by simp) ?_
      refine AllReady.cons rfl (fun K hK => ?_) AllReady.nil
      go_simp
      refine hK _ _ ?_
      clear hK K
      refine wpAny_done (by kernel_rfl) ?_ _
      go_end0
      exact ⟨rfl, _, HQ.out⟩
    · go_simp
      refine hK _ _ ?_
      clear hK K
      refine wpAny_ready (rs := [4]) (by kernel_rfl) (by simp) ?_
      refine AllReady.cons rfl (fun K hK => ?_) AllReady.nil
      go_simp
      refine hK _ _ ?_
      clear hK K
      refine wpAny_ready (rs := [12]) (by kernel_rfl) (by simp) ?_
      refine AllReady.cons rfl (fun K hK => ?_) AllReady.nil
      refine step_append_heldHa (by rfl) (.tmp 15) (.tmp 22) (by rfl) (by rfl) HOWN.out (by rfl) rfl HNW.out (by intro u hu; simp at hu; rcases hu with rfl | rfl | rfl <;> rfl) hm hBw ?_
      intro v' W5 h2 h3
      obtain ⟨vo, vk, vq, rfl⟩ : ∃ ao n c, v' = .slice ao n c := by rcases h2.2 with ⟨h, _⟩ | ⟨_, _, _, h, _⟩ <;> exact ⟨_, _, _, h⟩
      rw [← HVM.out] at h2
      obtain ⟨⟨u, q1⟩, q2, q3⟩ := HE.out _ W5 (.slice vo vk vq) HBD.out h2 h3
      have HQ := Lib.hid q3
      clear q3 h2 h3
      refine hK _ _ ?_
      clear hK K
      refine wpAny_take (i := 13) (v := .pointer (some ⟨kb, 0, none⟩)) rfl (by kernel_rfl) (by kernel_rfl) (by kernel_rfl) (fun _ _ _ h => h) (Or.inl ⟨by rfl, ?_⟩) ?_
      · intro w
        go_simp
      simp only [List.getElem_toArray, List.getElem_cons_succ, List.getElem_cons_zero, Act.put, List.setIfInBounds_toArray, List.set_cons_zero, List.set_cons_succ]
      refine wpAny_take (i := 14) (v := .pointer (some ⟨kb, 5, none⟩)) rfl (by kernel_rfl) (by kernel_rfl) (by kernel_rfl) (fun _ _ _ h => h) (Or.inl ⟨by rfl, ?_⟩) ?_
      · intro w
        go_simp
      simp only [List.getElem_toArray, List.getElem_cons_succ, List.getElem_cons_zero, Act.put, List.setIfInBounds_toArray, List.set_cons_zero, List.set_cons_succ]
      refine wpAny_ready (rs := [15]) (by kernel_rfl) (by simp) ?_
      refine AllReady.cons rfl (fun K hK => ?_) AllReady.nil
      go_simp
      refine hK _ _ ?_
      clear hK K
      refine wpAny_done (by kernel_rfl) ?_ _
      go_end0
      exact ⟨rfl, _, HQ.out⟩

theorem keepAll_anyHa (w0 w : World) (kb m : Nat) (tv : Value) (V : Nat → Value) (hS : KeepSHa w0 w kb m tv V) (hv1 : ∃ ao n c, V m = .slice ao n c) (hm : m ≤ 1000) :
    Calls Tryz.prog 16 #[.pointer (some ⟨kb, 0, none⟩), V m] w fun e w' => e = .returned (.tuple #[]) ∧ ∃ tv', KeepSHa w0 w' kb (m + 1) tv' V := by
  have HK := Lib.hid (keepOne_anyHa w0 w kb m tv V hS hv1 hm)
  clear hS
  generalize V m = v at *
  go_enter Tryz.func16, Tryz.ntmps16
  go_wp2_with fail
  refine HK.out.mono ?_
  rintro e w1 ⟨rfl, h⟩
  go_wp2_with fail
  go_end0
  exact ⟨rfl, h⟩
end Go.Proofs.YtlahdjdbbfjadaaGreatDoor

namespace Go.Proofs.YtlahdjdbbfjadaaGreatDoor
open Go.RowKit

theorem heldCells_lenHa (V : Nat → Value) : ∀ m, (heldCellsHa V m).length = 3 * m
  | 0 => rfl
  | m + 1 => by rw [heldCells_succHa, List.length_append, heldCells_lenHa V m]; simp; omega
theorem heldCells_atHa (V : Nat → Value) : ∀ (m i : Nat), i < m → (heldCellsHa V m)[i * 3]? = some (V i) ∧ (heldCellsHa V m)[i * 3 + 1]? = some (.slice none 0 0) ∧ (heldCellsHa V m)[i * 3 + 2]? = some (.int .i64 ((i : Int) + 1))
  | m + 1, i, hi => by
    have hl := heldCells_lenHa V m
    rw [heldCells_succHa]
    by_cases h : i < m
    · rw [List.getElem?_append_left (by omega), List.getElem?_append_left (by omega), List.getElem?_append_left (by omega)]
      exact heldCells_atHa V m i h
    · obtain rfl : i = m := by omega
      rw [List.getElem?_append_right (by omega), List.getElem?_append_right (by omega), List.getElem?_append_right (by omega), hl, show i * 3 - 3 * i = 0 by omega, show i * 3 + 1 - 3 * i = 1 by omega, show i * 3 + 2 - 3 * i = 2 by omega]
      exact ⟨rfl, rfl, rfl⟩
set_option maxHeartbeats 4000000 in
set_option maxRecDepth 100000 in
theorem apart_anyHa (w0 w : World) (kb m : Nat) (tv : Value) (V : Nat → Value) (len : Nat → Nat) (X : Nat → List Value) (hS : KeepSHa w0 w kb m tv V) (hm0 : 0 < m) (hm : m ≤ 2) (hown : ∀ i, i < m → w.ownsRow w0.heap.size 70 32 (V i) (len i) (X i))
    (hsepV : ∀ i, i < m → ∀ g, (V i).ownBlock = some g → g < kb ∧ ∀ j, j < m → j ≠ i → (V j).ownBlock ≠ some g) (hlen : ∀ j, j < m → len j ≤ 1048576) :
    Calls Tryz.prog 17 #[.pointer (some ⟨kb, 0, none⟩)] w fun e w' => e = .returned (.bool true) ∧ Below w0.heap.size w0 w' := by
  have hot : w.ownsRow (kb + 1) 111 3 tv m (heldCellsHa V m) := hS.own
  rcases hot.2 with ⟨_, h⟩ | ⟨tb, cap, cur, rfl, hkt, hth, _⟩
  · omega
  · have hbs : BookSHa w kb tb cap m V (fun _ => .slice none 0 0) := by
      refine ⟨hS.tx, fun i hi => ?_, hS.nl, fun j => hot.frozenAt j, hS.lt.2, lt_of_heap hth⟩
      obtain ⟨a, b, c⟩ := heldCells_atHa V m i hi
      rw [hot.cellAt _ (by omega), hot.cellAt _ (by omega), hot.cellAt _ (by omega)]
      exact ⟨a, b, c⟩
    have hF : FillSHa w0 w0.heap.size w kb tb cap m V (fun _ => .slice none 0 0) len X := ⟨hS.bel, hbs, hown⟩
    have hsep : SepHa kb tb m V := fun i hi g hg => by
      obtain ⟨a, b⟩ := hsepV i hi g hg
      exact ⟨by omega, by omega, b⟩
    have hVf : ∀ i, i < m → ∃ ao c, V i = .slice ao (len i) c ∧ (0 < len i → ∃ g, ao = some ⟨g, 0, none⟩) := fun i hi => by
      rcases (hown i hi).2 with ⟨h, hn⟩ | ⟨g, c, cur, h, _⟩
      · exact ⟨none, 0, by rw [h, hn], fun h => by omega⟩
      · exact ⟨_, _, h, fun _ => ⟨g, rfl⟩⟩
    have hk0 := hS.lt.1
    have HF := Lib.hid hF
    have HSEP := Lib.hid hsep
    have HVF := Lib.hid hVf
    have HLEN := Lib.hid hlen
    have NL0 := Lib.hid hbs.nl
    clear hF hsep hVf hlen hbs hown hsepV hS hot hth
    go_enter Tryz.func17, Tryz.ntmps17
    go_wp2_with (first | (go_at_call 35; refine (fillInt_none _ kb (NL0.out 1 (by decide) (by decide) (by decide))).mono ?_; rintro e _ ⟨rfl, rfl⟩) | (go_at_call 36; refine (fillByte_none _ kb (NL0.out 2 (by decide) (by decide) (by decide))).mono ?_; rintro e _ ⟨rfl, rfl⟩) | (go_at_call 37; refine (fillText_none _ kb (NL0.out 3 (by decide) (by decide) (by decide))).mono ?_; rintro e _ ⟨rfl, rfl⟩) | (go_at_call 38; refine (fillNumber_none _ kb (NL0.out 4 (by decide) (by decide) (by decide))).mono ?_; rintro e _ ⟨rfl, rfl⟩))
    refine (fill_anyHa w0 w w0.heap.size kb tb cap m V (fun _ => .slice none 0 0) len X HF.out (Nat.le_refl _) HSEP.out (fun _ _ => ⟨_, _, _, rfl⟩) HLEN.out hm).mono ?_
    rintro e w1 ⟨rfl, hF1⟩
    have NL1 := Lib.hid hF1.bs.nl
    have HG1 := Lib.hid (grow_of_fillHa hF1)
    clear hF1
    go_wp2_with (first | (go_at_call 40; refine (fillCoord_none _ kb (NL1.out 6 (by decide) (by decide) (by decide))).mono ?_; rintro e _ ⟨rfl, rfl⟩) | (go_at_call 41; refine (fillSpan_none _ kb (NL1.out 7 (by decide) (by decide) (by decide))).mono ?_; rintro e _ ⟨rfl, rfl⟩) | (go_at_call 42; refine (fillNode_none _ kb (NL1.out 8 (by decide) (by decide) (by decide))).mono ?_; rintro e _ ⟨rfl, rfl⟩) | (go_at_call 43; refine (fillTile_none _ kb (NL1.out 9 (by decide) (by decide) (by decide))).mono ?_; rintro e _ ⟨rfl, rfl⟩) | (go_at_call 44; refine (fillEntry_none _ kb (NL1.out 10 (by decide) (by decide) (by decide))).mono ?_; rintro e _ ⟨rfl, rfl⟩) | (go_at_call 45; refine (fillFound_none _ kb (NL1.out 11 (by decide) (by decide) (by decide))).mono ?_; rintro e _ ⟨rfl, rfl⟩) | (go_at_call 46; refine (fillKnown_none _ kb (NL1.out 12 (by decide) (by decide) (by decide))).mono ?_; rintro e _ ⟨rfl, rfl⟩) | (go_at_call 47; refine (fillVote_none _ kb (NL1.out 13 (by decide) (by decide) (by decide))).mono ?_; rintro e _ ⟨rfl, rfl⟩) | (go_at_call 48; refine (fillPart_none _ kb (NL1.out 14 (by decide) (by decide) (by decide))).mono ?_; rintro e _ ⟨rfl, rfl⟩) | (go_at_call 49; refine (fillHashList_none _ kb (NL1.out 15 (by decide) (by decide) (by decide))).mono ?_; rintro e _ ⟨rfl, rfl⟩) | (go_at_call 50; refine (fillQuery_none _ kb (NL1.out 16 (by decide) (by decide) (by decide))).mono ?_; rintro e _ ⟨rfl, rfl⟩) | (go_at_call 51; refine (growInt_none _ kb (NL1.out 1 (by decide) (by decide) (by decide))).mono ?_; rintro e _ ⟨rfl, rfl⟩) | (go_at_call 52; refine (growByte_none _ kb (NL1.out 2 (by decide) (by decide) (by decide))).mono ?_; rintro e _ ⟨rfl, rfl⟩) | (go_at_call 53; refine (growText_none _ kb (NL1.out 3 (by decide) (by decide) (by decide))).mono ?_; rintro e _ ⟨rfl, rfl⟩) | (go_at_call 54; refine (growNumber_none _ kb (NL1.out 4 (by decide) (by decide) (by decide))).mono ?_; rintro e _ ⟨rfl, rfl⟩))
    refine (grow_anyHa w0 w1 w0.heap.size kb tb cap m V (fun _ => .slice none 0 0) len HG1.out (Nat.le_refl _) HG1.out.bel.size (by omega) (by omega) HSEP.out HLEN.out hm).mono ?_
    rintro e w2 ⟨rfl, U, hG2⟩
    have NL2 := Lib.hid hG2.bs.nl
    have HG2 := Lib.hid hG2
    clear hG2
    go_wp2_with (first | (go_at_call 56; refine (growCoord_none _ kb (NL2.out 6 (by decide) (by decide) (by decide))).mono ?_; rintro e _ ⟨rfl, rfl⟩) | (go_at_call 57; refine (growSpan_none _ kb (NL2.out 7 (by decide) (by decide) (by decide))).mono ?_; rintro e _ ⟨rfl, rfl⟩) | (go_at_call 58; refine (growNode_none _ kb (NL2.out 8 (by decide) (by decide) (by decide))).mono ?_; rintro e _ ⟨rfl, rfl⟩) | (go_at_call 59; refine (growTile_none _ kb (NL2.out 9 (by decide) (by decide) (by decide))).mono ?_; rintro e _ ⟨rfl, rfl⟩) | (go_at_call 60; refine (growEntry_none _ kb (NL2.out 10 (by decide) (by decide) (by decide))).mono ?_; rintro e _ ⟨rfl, rfl⟩) | (go_at_call 61; refine (growFound_none _ kb (NL2.out 11 (by decide) (by decide) (by decide))).mono ?_; rintro e _ ⟨rfl, rfl⟩) | (go_at_call 62; refine (growKnown_none _ kb (NL2.out 12 (by decide) (by decide) (by decide))).mono ?_; rintro e _ ⟨rfl, rfl⟩) | (go_at_call 63; refine (growVote_none _ kb (NL2.out 13 (by decide) (by decide) (by decide))).mono ?_; rintro e _ ⟨rfl, rfl⟩) | (go_at_call 64; refine (growPart_none _ kb (NL2.out 14 (by decide) (by decide) (by decide))).mono ?_; rintro e _ ⟨rfl, rfl⟩) | (go_at_call 65; refine (growHashList_none _ kb (NL2.out 15 (by decide) (by decide) (by decide))).mono ?_; rintro e _ ⟨rfl, rfl⟩) | (go_at_call 66; refine (growQuery_none _ kb (NL2.out 16 (by decide) (by decide) (by decide))).mono ?_; rintro e _ ⟨rfl, rfl⟩) | (go_at_call 67; refine (lookInt_none _ kb (NL2.out 1 (by decide) (by decide) (by decide))).mono ?_; rintro e _ ⟨rfl, rfl⟩) | (go_at_call 68; refine (lookByte_none _ kb (NL2.out 2 (by decide) (by decide) (by decide))).mono ?_; rintro e _ ⟨rfl, rfl⟩) | (go_at_call 69; refine (lookText_none _ kb (NL2.out 3 (by decide) (by decide) (by decide))).mono ?_; rintro e _ ⟨rfl, rfl⟩) | (go_at_call 70; refine (lookNumber_none _ kb (NL2.out 4 (by decide) (by decide) (by decide))).mono ?_; rintro e _ ⟨rfl, rfl⟩))
    refine (look_anyHa w0 w2 w0.heap.size kb tb cap m V U len HG2.out HVF.out HLEN.out hm).mono ?_
    rintro e w3 ⟨rfl, b3⟩
    have HB3 := Lib.hid (below_trans HG2.out.bel b3)
    have NL3 := Lib.hid (fun j h1 h2 h3 => below_cell b3 (NL2.out j h1 h2 h3))
    clear b3
    go_wp2_with (first | (go_at_call 72; refine (lookCoord_none _ kb (NL3.out 6 (by decide) (by decide) (by decide))).mono ?_; rintro e _ ⟨rfl, rfl⟩) | (go_at_call 73; refine (lookSpan_none _ kb (NL3.out 7 (by decide) (by decide) (by decide))).mono ?_; rintro e _ ⟨rfl, rfl⟩) | (go_at_call 74; refine (lookNode_none _ kb (NL3.out 8 (by decide) (by decide) (by decide))).mono ?_; rintro e _ ⟨rfl, rfl⟩) | (go_at_call 75; refine (lookTile_none _ kb (NL3.out 9 (by decide) (by decide) (by decide))).mono ?_; rintro e _ ⟨rfl, rfl⟩) | (go_at_call 76; refine (lookEntry_none _ kb (NL3.out 10 (by decide) (by decide) (by decide))).mono ?_; rintro e _ ⟨rfl, rfl⟩) | (go_at_call 77; refine (lookFound_none _ kb (NL3.out 11 (by decide) (by decide) (by decide))).mono ?_; rintro e _ ⟨rfl, rfl⟩) | (go_at_call 78; refine (lookKnown_none _ kb (NL3.out 12 (by decide) (by decide) (by decide))).mono ?_; rintro e _ ⟨rfl, rfl⟩) | (go_at_call 79; refine (lookVote_none _ kb (NL3.out 13 (by decide) (by decide) (by decide))).mono ?_; rintro e _ ⟨rfl, rfl⟩) | (go_at_call 80; refine (lookPart_none _ kb (NL3.out 14 (by decide) (by decide) (by decide))).mono ?_; rintro e _ ⟨rfl, rfl⟩) | (go_at_call 81; refine (lookHashList_none _ kb (NL3.out 15 (by decide) (by decide) (by decide))).mono ?_; rintro e _ ⟨rfl, rfl⟩) | (go_at_call 82; refine (lookQuery_none _ kb (NL3.out 16 (by decide) (by decide) (by decide))).mono ?_; rintro e _ ⟨rfl, rfl⟩))
    go_ret
    exact ⟨rfl, HB3.out⟩
def bookRowHa : Array Value := #[.int .i64 0, .slice none 0 0, .slice none 0 0, .slice none 0 0, .slice none 0 0, .slice none 0 0, .slice none 0 0, .slice none 0 0, .slice none 0 0, .slice none 0 0, .slice none 0 0, .slice none 0 0, .slice none 0 0, .slice none 0 0, .slice none 0 0, .slice none 0 0, .slice none 0 0]
theorem keep_startHa (w0 w : World) (V : Nat → Value) (h : Below w0.heap.size w0 w) : KeepSHa w0 (w.alloc (.cells bookRowHa 56)) w.heap.size 0 (.slice none 0 0) V := by
  have hrow : (w.alloc (.cells bookRowHa 56)).heap[w.heap.size]? = some (.cells bookRowHa 56 (0, 0)) := heap_alloc_new w _
  refine ⟨h.alloc h.size _, ?_, ?_, fun j h1 h2 h3 => ?_, fun j => frozen_row hrow j, ⟨h.size, by simp⟩, World.ownsRow_nil _ _ _ _⟩
  · rw [cell_of_row _ _ 0 _ _ _ hrow]; rfl
  · rw [cell_of_row _ _ 5 _ _ _ hrow]; rfl
  · rw [cell_of_row _ _ j _ _ _ hrow]
    have : j = 1 ∨ j = 2 ∨ j = 3 ∨ j = 4 ∨ j = 6 ∨ j = 7 ∨ j = 8 ∨ j = 9 ∨ j = 10 ∨ j = 11 ∨ j = 12 ∨ j = 13 ∨ j = 14 ∨ j = 15 ∨ j = 16 := by omega
    rcases this with rfl | rfl | rfl | rfl | rfl | rfl | rfl | rfl | rfl | rfl | rfl | rfl | rfl | rfl | rfl <;> rfl
theorem KeepSHa.weaken {w0 w1 w : World} {kb m : Nat} {tv : Value} {V : Nat → Value} (h : KeepSHa w1 w kb m tv V) (hb : Below w0.heap.size w0 w1) : KeepSHa w0 w kb m tv V :=
  ⟨below_trans hb h.bel, h.n, h.tx, h.nl, h.fz, ⟨Nat.le_trans hb.size h.lt.1, h.lt.2⟩, h.own⟩
/-- Two values by their numbers. -/
def V2Ha (va vb : Value) (i : Nat) : Value := if i = 0 then va else vb
def N2Ha (a b : Nat) (i : Nat) : Nat := if i = 0 then a else b
def X2Ha (a b : List Value) (i : Nat) : List Value := if i = 0 then a else b
theorem apart2_anyHa (w0 w : World) (kb : Nat) (tv va vb : Value) (na nb : Nat) (xa xb : List Value) (hS : KeepSHa w0 w kb 2 tv (V2Ha va vb))
    (ha : w.ownsRow w0.heap.size 70 32 va na xa) (hb : w.ownsRow w0.heap.size 70 32 vb nb xb)
    (ka : ∀ g, va.ownBlock = some g → g < kb ∧ vb.ownBlock ≠ some g) (kb' : ∀ g, vb.ownBlock = some g → g < kb ∧ va.ownBlock ≠ some g) (la : na ≤ 1048576) (lb : nb ≤ 1048576) :
    Calls Tryz.prog 17 #[.pointer (some ⟨kb, 0, none⟩)] w fun e w' => e = .returned (.bool true) ∧ Below w0.heap.size w0 w' := by
  refine apart_anyHa w0 w kb 2 tv (V2Ha va vb) (N2Ha na nb) (X2Ha xa xb) hS (by decide) (by decide) (fun i hi => ?_) (fun i hi g hg => ?_) (fun i hi => ?_)
  · rcases show i = 0 ∨ i = 1 by omega with rfl | rfl
    · exact ha
    · exact hb
  · rcases show i = 0 ∨ i = 1 by omega with rfl | rfl
    · refine ⟨(ka g hg).1, fun j hj hne => ?_⟩
      obtain rfl : j = 1 := by omega
      exact (ka g hg).2
    · refine ⟨(kb' g hg).1, fun j hj hne => ?_⟩
      obtain rfl : j = 0 := by omega
      exact (kb' g hg).2
  · rcases show i = 0 ∨ i = 1 by omega with rfl | rfl
    · exact la
    · exact lb
end Go.Proofs.YtlahdjdbbfjadaaGreatDoor
