/-
  cartularylaw01.Book over lists of tiles: the book's state, plain: an element put behind a row of the call's own, and what stays as it was (printed by wip/genbookg.py).
-/
import Derived.Test.YtlahdjdbbfjadaaGreatDoorTileRow
import Derived.Test.YtlahdjdbbfjadaaGreatDoorTileMay
import Derived.Maps.AppendAt
import Derived.Deep.MidRow
import Derived.Deep.Upon
import Derived.Lib.LazyBuf
namespace Go.Proofs.YtlahdjdbbfjadaaGreatDoor
open Go.RowKit

theorem infoTi : (Tryz.prog.info? 93).map (fun i => (i.zero, i.size, i.bytes)) = some (some (.agg #[.int .u8 0, .int .u64 0, .int .i64 0]), 3, 24) := by kernel_rfl
theorem own_belowTi {B : Nat} {w w' : World} {e : TypeId} {size n : Nat} {v : Value} {xs : List Value} (h : w.ownsRow B e size v n xs) (hb : Below w.heap.size w w') : w'.ownsRow B e size v n xs := by
  refine ⟨h.1, ?_⟩
  rcases h.2 with h' | ⟨g, cap, cur, rfl, hg, hh, hr⟩
  · exact .inl h'
  · exact .inr ⟨g, cap, cur, rfl, hg, below_heap hb hh, hr⟩
theorem addr0Ti (g j : Nat) : (⟨g, 0, none⟩ : Addr).add j = ⟨g, j, none⟩ := by rw [Addr.add_mid, Nat.zero_add]
theorem own_atTi {B : Nat} {w : World} {v : Value} {n g : Nat} {xs : List Value} (h : w.ownsRow B 93 3 v n xs) (hg : v.ownBlock = some g) (j : Nat) (hj : j < n * 3) : w.cell? ⟨g, j, none⟩ = some (xs[j]'(by rw [h.1]; exact hj)) := by
  have := h.cells hg j _ (List.getElem?_eq_getElem (by rw [h.1]; exact hj))
  rwa [addr0Ti] at this
theorem run_append_oneTi {W : World} {B : Nat} {v : Value} {n : Nat} {xs : List Value} (hown : W.ownsRow B 93 3 v n xs) (ad : Addr) (ys : List Value) (hys : ys.length = 3) (h1 : ∀ u ∈ ys, u.oneCell' = true) (hnew : ∀ j u, ys[j]? = some u → W.cell? (ad.add j) = some u) (h63 : n + 1 ≤ 2000000) (hB : B ≤ W.heap.size) (ty : TypeId) :
    ∃ v' W', (Builtin.append_ #[61, 61] ty #[v, .slice (some ad) 1 1]).run Tryz.prog W = .ok v' W' ∧ W'.ownsRow B 93 3 v' (n + 1) (xs ++ ys) ∧ W.grownBy W' v.ownBlock ∧
      (v'.ownBlock = v.ownBlock ∨ v'.ownBlock = some W.heap.size) ∧ (∀ g j, g < W.heap.size → (v.ownBlock = some g → j < n * 3) → W'.cell? ⟨g, j, none⟩ = W.cell? ⟨g, j, none⟩) := by
  obtain ⟨i0, hi, hz⟩ := Option.map_eq_some_iff.1 infoTi
  simp only [Prod.mk.injEq] at hz
  obtain ⟨hz0, hz1, hz2⟩ := hz
  obtain ⟨v', W', hr, h2, h3, _, h5⟩ := run_append_own_at (P := Tryz.prog) W B 61 ty 93 i0 (.agg #[.int .u8 0, .int .u64 0, .int .i64 0]) 3 24 Tryz.underlying61 hi hz0 hz1 hz2 rfl (by decide) v n xs hown ad 1 1 ys (by omega) hnew h1 (by unfold maxLen; omega) (by omega) hB
  refine ⟨v', W', hr, h2, h3, h5, fun g j hg hj => ?_⟩
  by_cases hb : v.ownBlock = some g
  · have hjn := hj hb
    by_cases hv : v'.ownBlock = some g
    · have hl := hown.1
      have e1 := hown.cells (g := g) hb j xs[j] (List.getElem?_eq_getElem (by omega))
      have e2 := h2.cells (g := g) hv j xs[j] (by rw [List.getElem?_append_left (by omega), List.getElem?_eq_getElem (by omega)])
      rw [addr0Ti] at e1 e2
      rw [e1, e2]
    · rcases hown.2 with ⟨rfl, rfl⟩ | ⟨g', cap, cur, rfl, hbg, hgg, hnc, hcm, hcs, htake⟩
      · omega
      · obtain rfl : g' = g := by simpa [Value.ownBlock] using hb
        have hroom : ¬ n + 1 ≤ cap := fun hroom => by
          have hr' := run_append_room (P := Tryz.prog) W 61 ty 93 i0 Tryz.underlying61 hi g' n cap cur hgg ad 1 1 ys (by rw [hz1]; omega) hnew h1 hroom (by rw [hz1, hcs]; omega)
          rw [hr] at hr'
          injection hr' with q1 q2
          exact hv (by rw [q1]; rfl)
        have holds : ∀ j u, xs[j]? = some u → W.cell? ((⟨g', 0, none⟩ : Addr).add j) = some u := hown.cells (g := g') rfl
        have hr' := run_append_grow (P := Tryz.prog) W 61 ty 93 i0 (.agg #[.int .u8 0, .int .u64 0, .int .i64 0]) Tryz.underlying61 hi hz0 ⟨g', 0, none⟩ n cap xs (by rw [hz1]; exact hown.1) holds ad 1 1 ys (by rw [hz1]; omega) hnew (by omega) (by omega) (growslice_fits (by omega) (by rw [hz2]; omega))
        have q2 := (Result.ok.inj (hr.symm.trans hr')).2
        rw [q2]
        exact World.cell?_of_block (heap_alloc_old W.drew _ hg)
  · exact World.cell?_of_block (h3.block g hg (fun e => hb e.symm))

/-- The same elements, one behind the other. -/
def repsTi (n : Nat) (m : List Value) : List Value := (List.replicate n m).flatten
theorem reps_lenTi (n : Nat) {m : List Value} (h : m.length = 3) : (repsTi n m).length = n * 3 := by
  induction n with
  | zero => rfl
  | succ n ih =>
    unfold repsTi at ih ⊢
    rw [List.replicate_succ, List.flatten_cons, List.length_append, ih, h]
    omega
theorem reps_succTi (n : Nat) (m : List Value) : repsTi (n + 1) m = repsTi n m ++ m := by
  unfold repsTi
  rw [List.replicate_succ', List.flatten_append]
  simp
theorem reps_getTi {m : List Value} (h : m.length = 3) : ∀ (n i k : Nat), i < n → k < 3 → (repsTi n m)[i * 3 + k]? = m[k]?
  | n + 1, i, k, hi, hk => by
    rw [reps_succTi]
    have hl := reps_lenTi n h
    by_cases e : i < n
    · rw [List.getElem?_append_left (by omega), reps_getTi h n i k e hk]
    · obtain rfl : i = n := by omega
      rw [List.getElem?_append_right (by omega), hl]
      congr 1
      omega
/-- The mark of a list: a tile that none is. -/
def mkTi (i : Nat) : List Value := [.int .u8 201, .int .u64 0, .int .i64 (-((i : Int) + 1))]
theorem mk_lenTi (i : Nat) : (mkTi i).length = 3 := rfl
theorem mk_oneTi (i : Nat) : ∀ u ∈ mkTi i, u.oneCell' = true := by
  intro u hu
  simp [mkTi] at hu
  rcases hu with rfl | rfl | rfl <;> rfl
def marksTi (len : Nat → Nat) (j : Nat) : List Value := repsTi (len j) (mkTi j)
def fillCTi (X : Nat → List Value) (len : Nat → Nat) (i t : Nat) : Nat → List Value := fun j => if j < i then marksTi len j else if j = i then repsTi t (mkTi i) ++ (X i).drop (t * 3) else X j
theorem cell_setCell_neTi (w : World) (p : Addr) (v : Value) (q : Addr) (h : q.block ≠ p.block) : (w.setCell p v).cell? q = w.cell? q := World.cell?_of_block (heap_setCell_other w p q.block v h)
theorem heap_setCells_neTi (g : Nat) : ∀ (vs : List Value) (o : Nat) (w : World) (k : Nat), k ≠ g → (w.setCells g o vs).heap[k]? = w.heap[k]?
  | [], _, _, _, _ => rfl
  | v :: vs, o, w, k, h => by rw [World.setCells, heap_setCells_neTi g vs _ _ k h, heap_setCell_other w _ k v h]
theorem cell_setCells_neTi (g : Nat) (vs : List Value) (o : Nat) (w : World) (q : Addr) (h : q.block ≠ g) : (w.setCells g o vs).cell? q = w.cell? q := World.cell?_of_block (heap_setCells_neTi g vs o w _ h)
theorem size_setCellsTi (g : Nat) : ∀ (vs : List Value) (o : Nat) (w : World), (w.setCells g o vs).heap.size = w.heap.size
  | [], _, _ => rfl
  | v :: vs, o, w => by rw [World.setCells, size_setCellsTi g vs]; simp
theorem below_setCellsTi {B g : Nat} {w : World} (hg : B ≤ g) : ∀ (vs : List Value) (o : Nat) (w' : World), Below B w w' → Below B w (w'.setCells g o vs)
  | [], _, _, h => h
  | v :: r, o, w', h => below_setCellsTi hg r (o + 1) (w'.setCell ⟨g, o, none⟩ v) (h.setCell (p := ⟨g, o, none⟩) hg v)
/-- The list of the held lists, read through the book. -/
structure BookSTi (w : World) (kb tb cap m : Nat) (V U : Nat → Value) : Prop where
  bk : w.cell? ⟨kb, 9, none⟩ = some (.slice (some ⟨tb, 0, none⟩) m cap)
  it : ∀ i, i < m → w.cell? ⟨tb, i * 3, none⟩ = some (V i) ∧ w.cell? ⟨tb, i * 3 + 1, none⟩ = some (U i) ∧ w.cell? ⟨tb, i * 3 + 2, none⟩ = some (.int .i64 ((i : Int) + 1))
  nl : ∀ j, 1 ≤ j → j ≤ 16 → j ≠ 9 → w.cell? ⟨kb, j, none⟩ = some (.slice none 0 0)
  fz : ∀ j, w.frozen? ⟨tb, j, none⟩ = false
  lt : kb < w.heap.size ∧ tb < w.heap.size
theorem BookSTi.set {w : World} {kb tb cap m : Nat} {V U : Nat → Value} (h : BookSTi w kb tb cap m V U) (g o : Nat) (vs : List Value) (h1' : g ≠ kb) (h2 : g ≠ tb) : BookSTi (w.setCells g o vs) kb tb cap m V U :=
  ⟨by rw [cell_setCells_neTi _ _ _ _ _ (fun e => h1' e.symm)]; exact h.bk, fun i hi => by
    rw [cell_setCells_neTi _ _ _ _ _ (fun e => h2 e.symm), cell_setCells_neTi _ _ _ _ _ (fun e => h2 e.symm), cell_setCells_neTi _ _ _ _ _ (fun e => h2 e.symm)]
    exact h.it i hi, fun j h1 h2 h3 => by rw [cell_setCells_neTi _ _ _ _ _ (fun e => h1' e.symm)]; exact h.nl j h1 h2 h3, fun j => by rw [World.frozen?_setCells]; exact h.fz j, by
    rw [size_setCellsTi]; exact h.lt⟩
theorem BookSTi.below {w w' : World} {kb tb cap m : Nat} {V U : Nat → Value} (h : BookSTi w kb tb cap m V U) (hb : Below w.heap.size w w') : BookSTi w' kb tb cap m V U :=
  ⟨below_cell hb h.bk, fun i hi => ⟨below_cell hb (h.it i hi).1, below_cell hb (h.it i hi).2.1, below_cell hb (h.it i hi).2.2⟩, fun j h1 h2 h3 => below_cell hb (h.nl j h1 h2 h3), fun j => by rw [World.frozen?_of_block (hb.block tb h.lt.2)]; exact h.fz j, ⟨Nat.lt_of_lt_of_le h.lt.1 hb.size, Nat.lt_of_lt_of_le h.lt.2 hb.size⟩⟩
theorem rowKeepTi {w w' : World} {B : Nat} {e : TypeId} {size : Nat} {v : Value} {n : Nat} {xs : List Value} (h : w.ownsRow B e size v n xs) (hb : ∀ g, v.ownBlock = some g → w'.heap[g]? = w.heap[g]?) : w'.ownsRow B e size v n xs := by
  refine ⟨h.1, ?_⟩
  rcases h.2 with h' | ⟨g, cap, cur, rfl, hg, hh, hr⟩
  · exact .inl h'
  · exact .inr ⟨g, cap, cur, rfl, hg, (hb g rfl).trans hh, hr⟩
/-- No two of the lists, and not the book's own rows, lie in one block. -/
def SepTi (kb tb m : Nat) (V : Nat → Value) : Prop := ∀ i, i < m → ∀ g, (V i).ownBlock = some g → g ≠ kb ∧ g ≠ tb ∧ ∀ j, j < m → j ≠ i → (V j).ownBlock ≠ some g
structure FillSTi (w0 : World) (B : Nat) (w : World) (kb tb cap m : Nat) (V U : Nat → Value) (len : Nat → Nat) (C : Nat → List Value) : Prop where
  bel : Below w0.heap.size w0 w
  bs : BookSTi w kb tb cap m V U
  own : ∀ j, j < m → w.ownsRow B 93 3 (V j) (len j) (C j)
theorem FillSTi.below {w0 w w' : World} {B kb tb cap m : Nat} {V U : Nat → Value} {len : Nat → Nat} {C : Nat → List Value} (h : FillSTi w0 B w kb tb cap m V U len C) (hb : Below w.heap.size w w') : FillSTi w0 B w' kb tb cap m V U len C :=
  ⟨below_trans h.bel hb, h.bs.below hb, fun j hj => own_belowTi (h.own j hj) hb⟩
/-- So many cells set in a row that is owned. -/
theorem own_setCellsTi {B g n cap : Nat} {e : TypeId} {size : Nat} : ∀ (vs : List Value) (o : Nat) (w : World) (xs : List Value), w.ownsRow B e size (.slice (some ⟨g, 0, none⟩) n cap) n xs → o + vs.length ≤ xs.length →
    (w.setCells g o vs).ownsRow B e size (.slice (some ⟨g, 0, none⟩) n cap) n (xs.take o ++ vs ++ xs.drop (o + vs.length))
  | [], o, w, xs, h, hl => by
    rw [List.append_nil, List.length_nil, Nat.add_zero, List.take_append_drop]
    exact h
  | v :: vs, o, w, xs, h, hl => by
    rw [List.length_cons] at hl
    have h1 := (h.stored o v).1
    have h2 := own_setCellsTi vs (o + 1) _ _ h1 (by rw [List.length_set]; omega)
    rw [World.setCells]
    have e : (xs.set o v).take (o + 1) ++ vs ++ (xs.set o v).drop (o + 1 + vs.length) = xs.take o ++ v :: vs ++ xs.drop (o + (v :: vs).length) := by
      rw [List.length_cons, List.drop_set_of_lt (by omega), List.take_add_one, List.getElem?_set_self (by omega), List.take_set_of_le (Nat.le_refl o), show o + (vs.length + 1) = o + 1 + vs.length by omega]
      simp
    rw [← e]
    exact h2
theorem set_markTi (X m : List Value) (t : Nat) (hm : m.length = 3) (_ : t * 3 + 3 ≤ X.length) :
    (repsTi t m ++ X.drop (t * 3)).take (t * 3) ++ m ++ (repsTi t m ++ X.drop (t * 3)).drop (t * 3 + m.length) = repsTi (t + 1) m ++ X.drop ((t + 1) * 3) := by
  have hl := reps_lenTi t hm
  rw [List.take_left' hl, List.drop_append, List.drop_of_length_le (by omega), List.nil_append, hl, List.drop_drop, reps_succTi, hm]
  congr 2
  omega
theorem fill_atTi {w0 w : World} {B kb tb cap m i t g c : Nat} {V U : Nat → Value} {len : Nat → Nat} {X : Nat → List Value} (h : FillSTi w0 B w kb tb cap m V U len (fillCTi X len i t)) (hB : w0.heap.size ≤ B) (hsep : SepTi kb tb m V) (hX : ∀ j, j < m → (X j).length = len j * 3) (hi : i < m) (ht : t < len i) (hV : V i = .slice (some ⟨g, 0, none⟩) (len i) c) :
    w.there g (t * 3) 3 ∧ g < w.heap.size ∧ FillSTi w0 B (w.setCells g (t * 3) (mkTi i)) kb tb cap m V U len (fillCTi X len i (t + 1)) := by
  have ho := h.own i hi
  have hob : (V i).ownBlock = some g := by rw [hV]; rfl
  have hlt := ho.lt g hob
  obtain ⟨s1, s2, s3⟩ := hsep i hi g hob
  have hxl := hX i hi
  have hl := mk_lenTi i
  have hcl : (fillCTi X len i t i).length = len i * 3 := ho.1
  have hth : w.there g (t * 3) 3 := fun j hj => by
    refine ⟨by rw [own_atTi ho hob (t * 3 + j) (by omega)]; rfl, ?_⟩
    rcases ho.2 with ⟨h0, _⟩ | ⟨g', c', cur, e, _, hh, _⟩
    · rw [hV] at h0; cases h0
    · rw [hV] at e
      injection e with e _ _
      injection e with e
      injection e with e _ _
      subst e
      exact frozen_row hh _
  refine ⟨hth, hlt.2, ?_, h.bs.set g _ _ s1 s2, fun j hj => ?_⟩
  · exact below_setCellsTi (Nat.le_trans hB hlt.1) _ _ _ h.bel
  · by_cases hji : j = i
    · subst hji
      rw [hV] at ho
      have hst := own_setCellsTi (mkTi j) (t * 3) w _ ho (by rw [hl, hcl]; omega)
      rw [← hV] at hst
      have e : (fillCTi X len j t j).take (t * 3) ++ mkTi j ++ (fillCTi X len j t j).drop (t * 3 + (mkTi j).length) = fillCTi X len j (t + 1) j := by
        unfold fillCTi
        rw [if_neg (by omega), if_pos rfl, if_neg (by omega), if_pos rfl]
        exact set_markTi (X j) (mkTi j) t hl (by omega)
      rw [e] at hst
      exact hst
    · have e : fillCTi X len i (t + 1) j = fillCTi X len i t j := by
        unfold fillCTi
        by_cases hlt : j < i
        · rw [if_pos hlt, if_pos hlt]
        · rw [if_neg hlt, if_neg hji, if_neg hlt, if_neg hji]
      rw [e]
      exact rowKeepTi (h.own j hj) (fun g' hg' => heap_setCells_neTi g _ _ _ g' (fun e2 => s3 j hj hji (by rw [hg']; exact congrArg some e2)))
theorem fillC_nextTi (X : Nat → List Value) (len : Nat → Nat) (i : Nat) (hX : (X i).length = len i * 3) : fillCTi X len i (len i) = fillCTi X len (i + 1) 0 := by
  funext j
  unfold fillCTi
  rcases Nat.lt_trichotomy j i with h | h | h
  · rw [if_pos h, if_pos (by omega)]
  · subst h
    rw [if_neg (by omega), if_pos rfl, if_pos (by omega), List.drop_eq_nil_of_le (by omega), List.append_nil]
    rfl
  · rw [if_neg (by omega), if_neg (by omega), if_neg (by omega)]
    by_cases h2 : j = i + 1
    · subst h2; rw [if_pos rfl]; simp [repsTi]
    · rw [if_neg h2]
theorem marks_getTi (len : Nat → Nat) (j t k : Nat) (ht : t < len j) (hk : k < 3) : (marksTi len j)[t * 3 + k]? = (mkTi j)[k]? := reps_getTi (mk_lenTi j) _ _ _ ht hk
end Go.Proofs.YtlahdjdbbfjadaaGreatDoor
