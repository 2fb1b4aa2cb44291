/-
  cartularylaw01.Book over lists of tiles: while the lists grow, plain (printed by wip/genbookg.py).
-/
import Derived.Test.YtlahdjdbbfjadaaGreatDoorBookGTi
namespace Go.Proofs.YtlahdjdbbfjadaaGreatDoor
open Go.RowKit

/-- The book's state while the lists grow: k of them have. -/
structure GrowSTi (w0 : World) (B : Nat) (w : World) (kb tb cap m : Nat) (V U : Nat → Value) (len : Nat → Nat) (k ko : Nat) : Prop where
  bel : Below w0.heap.size w0 w
  bs : BookSTi w kb tb cap m V U
  uf : ∀ i, i < m → ∃ ao n c, U i = .slice ao n c
  vlt : ∀ i, i < m → ∀ g, (V i).ownBlock = some g → g < w.heap.size
  rd : ∀ i, i < m → ∀ g t, (V i).ownBlock = some g → t < len i → w.rangeAt g (t * 3) (mkTi i)
  own : ∀ i, ko ≤ i → i < m → w.ownsRow B 93 3 (V i) (len i) (marksTi len i)
  lng : ∀ i, i < k → ∃ g c, U i = .slice (some ⟨g, 0, none⟩) (len i + 70) c ∧ g < w.heap.size ∧ (∀ t, t < len i + 70 → w.rangeAt g (t * 3) (mkTi i)) ∧ (∀ j, j < m → j ≠ i → (V j).ownBlock ≠ some g) ∧ g ≠ tb
/-- What an append onto the k-th list asks and leaves. -/
structure LongSTi (B : Nat) (w : World) (kb tb h m : Nat) (V U : Nat → Value) (len : Nat → Nat) (k s : Nat) (u : Value) : Prop where
  own : w.ownsRow B 93 3 u (len k + s) (repsTi (len k + s) (mkTi k))
  sv : ∀ i, i < m → ∀ g, (V i).ownBlock = some g → u.ownBlock = some g → i = k
  su : ∀ i, i < k → ∀ g n c, U i = .slice (some ⟨g, 0, none⟩) n c → u.ownBlock ≠ some g
  sb : u.ownBlock ≠ some kb ∧ u.ownBlock ≠ some tb ∧ u.ownBlock ≠ some h
theorem range_belowTi {w w' : World} (hb : Below w.heap.size w w') {g o : Nat} {cs : List Value} (h : w.rangeAt g o cs) : w'.rangeAt g o cs := fun j v hv => below_cell hb (h j v hv)
theorem GrowSTi.below {w0 w w' : World} {B kb tb cap m k ko : Nat} {V U : Nat → Value} {len : Nat → Nat} (h : GrowSTi w0 B w kb tb cap m V U len k ko) (hb : Below w.heap.size w w') : GrowSTi w0 B w' kb tb cap m V U len k ko where
  bel := below_trans h.bel hb
  bs := h.bs.below hb
  uf := h.uf
  vlt := fun i hi g hg => Nat.lt_of_lt_of_le (h.vlt i hi g hg) hb.size
  rd := fun i hi g t hg ht => range_belowTi hb (h.rd i hi g t hg ht)
  own := fun i hk hi => own_belowTi (h.own i hk hi) hb
  lng := fun i hi => by
    obtain ⟨g, c, h1, h2, h3, h4⟩ := h.lng i hi
    exact ⟨g, c, h1, Nat.lt_of_lt_of_le h2 hb.size, fun t ht => range_belowTi hb (h3 t ht), h4⟩
theorem LongSTi.below {w w' : World} {B kb tb hh m k s : Nat} {V U : Nat → Value} {len : Nat → Nat} {u : Value} (h : LongSTi B w kb tb hh m V U len k s u) (hb : Below w.heap.size w w') : LongSTi B w' kb tb hh m V U len k s u :=
  ⟨own_belowTi h.own hb, h.sv, h.su, h.sb⟩
/-- What one element more leaves of the book's state. -/
theorem grow_appendTi {w0 w w' : World} {B kb tb cap m k ko s hh : Nat} {V U : Nat → Value} {len : Nat → Nat} {u u' : Value} (h : GrowSTi w0 B w kb tb cap m V U len k ko) (hko : k < ko) (hl : LongSTi B w kb tb hh m V U len k s u) (hB : w0.heap.size ≤ B) (hBw : B ≤ w.heap.size) (hhw : hh < w.heap.size)
    (h1 : w'.ownsRow B 93 3 u' (len k + s + 1) (repsTi (len k + s) (mkTi k) ++ mkTi k)) (h2 : w.grownBy w' u.ownBlock) (h3 : u'.ownBlock = u.ownBlock ∨ u'.ownBlock = some w.heap.size)
    (h4 : ∀ g j, g < w.heap.size → (u.ownBlock = some g → j < (len k + s) * 3) → w'.cell? ⟨g, j, none⟩ = w.cell? ⟨g, j, none⟩) :
    GrowSTi w0 B w' kb tb cap m V U len k ko ∧ LongSTi B w' kb tb hh m V U len k (s + 1) u' ∧ w'.heap[hh]? = w.heap[hh]? := by
  have hbk : ∀ j : Nat, w'.cell? ⟨kb, j, none⟩ = w.cell? ⟨kb, j, none⟩ := fun j => h4 kb j h.bs.lt.1 (fun e => absurd e hl.sb.1)
  have hbt : ∀ j : Nat, w'.cell? ⟨tb, j, none⟩ = w.cell? ⟨tb, j, none⟩ := fun j => h4 tb j h.bs.lt.2 (fun e => absurd e hl.sb.2.1)
  refine ⟨⟨?_, ⟨by rw [hbk]; exact h.bs.bk, fun i hi => by rw [hbt, hbt, hbt]; exact h.bs.it i hi, fun j x1 x2 x3 => by rw [hbk]; exact h.bs.nl j x1 x2 x3, fun j => by rw [World.frozen?_of_block (h2.block tb h.bs.lt.2 (fun e => hl.sb.2.1 e.symm))]; exact h.bs.fz j, ⟨Nat.lt_of_lt_of_le h.bs.lt.1 h2.size, Nat.lt_of_lt_of_le h.bs.lt.2 h2.size⟩⟩, h.uf, ?_, ?_, ?_, ?_⟩, ⟨?_, ?_, ?_, ?_⟩, ?_⟩
  · refine h.bel.grown h2 (Nat.le_trans hB hBw) fun g hg => ?_
    exact Nat.le_trans hB (hl.own.lt g hg).1
  · exact fun i hi g hg => Nat.lt_of_lt_of_le (h.vlt i hi g hg) h2.size
  · intro i hi g t hg ht j v hv
    have hk := (List.getElem?_eq_some_iff.1 hv).1
    rw [mk_lenTi] at hk
    rw [h4 g _ (h.vlt i hi g hg) (fun e => by have := hl.sv i hi g hg e; subst this; omega)]
    exact h.rd i hi g t hg ht j v hv
  · intro i hki hi
    refine rowKeepTi (h.own i hki hi) fun g hg => h2.block g (h.vlt i hi g hg) fun e => ?_
    have := hl.sv i hi g hg e.symm
    omega
  · intro i hi
    obtain ⟨g, c, e1, e2, e3, e4⟩ := h.lng i hi
    refine ⟨g, c, e1, Nat.lt_of_lt_of_le e2 h2.size, fun t ht j v hv => ?_, e4⟩
    rw [h4 g _ e2 (fun e => absurd e (hl.su i hi g _ _ e1))]
    exact e3 t ht j v hv
  · rw [show len k + (s + 1) = len k + s + 1 by omega, reps_succTi]
    exact h1
  · intro i hi g hg hu
    rcases h3 with e | e
    · exact hl.sv i hi g hg (e ▸ hu)
    · rw [e] at hu
      have := h.vlt i hi g hg
      injection hu with hu
      omega
  · intro i hi g n c hU hu
    rcases h3 with e | e
    · exact hl.su i hi g n c hU (e ▸ hu)
    · obtain ⟨g', c', e1, e2, _⟩ := h.lng i hi
      rw [hU] at e1
      injection e1 with e1 _ _
      injection e1 with e1
      injection e1 with e1 _ _
      rw [e] at hu
      injection hu with hu
      omega
  · rcases h3 with e | e
    · rw [e]; exact hl.sb
    · rw [e]
      have := h.bs.lt
      exact ⟨fun q => by injection q with q; omega, fun q => by injection q with q; omega, fun q => by injection q with q; omega⟩
  · exact h2.block hh hhw (fun e => hl.sb.2.2 e.symm)
theorem grow_startTi {w0 w : World} {B kb tb cap m k : Nat} {V U : Nat → Value} {len : Nat → Nat} (h : GrowSTi w0 B w kb tb cap m V U len k k) (hk : k < m) (hh : Nat) (hsep : SepTi kb tb m V) (hV : ∀ g, (V k).ownBlock = some g → g ≠ hh) :
    GrowSTi w0 B w kb tb cap m V U len k (k + 1) ∧ LongSTi B w kb tb hh m V U len k 0 (V k) := by
  refine ⟨⟨h.bel, h.bs, h.uf, h.vlt, h.rd, fun i hi hm => h.own i (by omega) hm, h.lng⟩, ⟨h.own k (Nat.le_refl _) hk, fun i hi g hg hu => ?_, fun i hi g n c hU hu => ?_, ?_, ?_, ?_⟩⟩
  · by_cases e : i = k
    · exact e
    · exact absurd hu ((hsep i hi g hg).2.2 k hk (fun q => e q.symm))
  · obtain ⟨g', c', e1, _, _, e4⟩ := h.lng i hi
    rw [hU] at e1
    injection e1 with e1 _ _
    injection e1 with e1
    injection e1 with e1 _ _
    subst e1
    exact e4.1 k hk (by omega) hu
  · exact fun e => (hsep k hk kb e).1 rfl
  · exact fun e => (hsep k hk tb e).2.1 rfl
  · exact fun e => hV hh e rfl
/-- A list has grown: its new value is laid into the book. -/
theorem grow_endTi {w0 w : World} {B kb tb cap m k hh : Nat} {V U : Nat → Value} {len : Nat → Nat} {u : Value} (h : GrowSTi w0 B w kb tb cap m V U len k (k + 1)) (hl : LongSTi B w kb tb hh m V U len k 70 u) (hk : k < m) (hkt : kb ≠ tb) (hB : w0.heap.size ≤ tb) (hsep : SepTi kb tb m V) :
    ∃ g c, u = .slice (some ⟨g, 0, none⟩) (len k + 70) c ∧ GrowSTi w0 B (w.setCell ⟨tb, k * 3 + 1, none⟩ u) kb tb cap m V (fun j => if j = k then u else U j) len (k + 1) (k + 1) := by
  rcases hl.own.2 with ⟨_, h0⟩ | ⟨g, c, cur, hu, hg, hh', hr⟩
  · omega
  · have hgw := lt_of_heap hh'
    have hgt : g ≠ tb := fun e => hl.sb.2.1 (by rw [hu, e]; rfl)
    have hsz : (w.setCell ⟨tb, k * 3 + 1, none⟩ u).heap.size = w.heap.size := by simp
    have hcell : ∀ p : Addr, p.block ≠ tb → (w.setCell ⟨tb, k * 3 + 1, none⟩ u).cell? p = w.cell? p := fun p hp => cell_setCell_neTi _ _ _ _ hp
    have hc0 := (h.bs.it k hk).2.1
    have hoff : ∀ j, j ≠ k * 3 + 1 → (w.setCell ⟨tb, k * 3 + 1, none⟩ u).cell? ⟨tb, j, none⟩ = w.cell? ⟨tb, j, none⟩ := fun j hj =>
      World.cell?_setCells_out tb [u] (k * 3 + 1) w ⟨tb, j, none⟩ (fun _ _ => by simp only [List.length_cons, List.length_nil]; omega)
    have hset : (w.setCell ⟨tb, k * 3 + 1, none⟩ u).cell? ⟨tb, k * 3 + 1, none⟩ = some u := World.cell?_setCell_same' w _ u (by rw [hc0]; rfl)
    refine ⟨g, c, hu, ⟨h.bel.setCell (p := ⟨tb, k * 3 + 1, none⟩) hB _, ⟨by rw [hcell _ hkt]; exact h.bs.bk, fun i hi => ?_, fun j x1 x2 x3 => by rw [hcell _ hkt]; exact h.bs.nl j x1 x2 x3, fun j => by rw [World.frozen?_setCell]; exact h.bs.fz j, by rw [hsz]; exact h.bs.lt⟩, fun i hi => ?_, ?_, ?_, ?_, ?_⟩⟩
    · obtain ⟨a, b, d⟩ := h.bs.it i hi
      refine ⟨by rw [hoff _ (by omega)]; exact a, ?_, by rw [hoff _ (by omega)]; exact d⟩
      by_cases e : i = k
      · subst e; rw [hset, if_pos rfl]
      · rw [hoff _ (by omega), if_neg e]; exact b
    · by_cases e : i = k
      · exact ⟨_, _, _, by rw [if_pos e]; exact hu⟩
      · rw [if_neg e]; exact h.uf i hi
    · rw [hsz]; exact h.vlt
    · intro i hi g' t hg' ht j v hv
      rw [hcell _ (fun e => (hsep i hi g' hg').2.1 e)]
      exact h.rd i hi g' t hg' ht j v hv
    · intro i hki hi
      exact rowKeepTi (h.own i hki hi) fun g' hg' => heap_setCell_other w _ g' _ (fun e => (hsep i hi g' hg').2.1 e)
    · intro i hi
      rw [hsz]
      by_cases e : i = k
      · subst e
        have ho := hl.own
        refine ⟨g, c, by rw [if_pos rfl]; exact hu, hgw, fun t ht j v hv => ?_, fun j hj hji hV => ?_, ?_⟩
        · have hj := (List.getElem?_eq_some_iff.1 hv).1
          have hj' := hj
          rw [mk_lenTi] at hj'
          rw [hcell _ hgt]
          have := ho.cells (g := g) (by rw [hu]; rfl) (t * 3 + j) v (by rw [reps_getTi (mk_lenTi i) _ _ _ ht hj']; exact hv)
          rwa [addr0Ti] at this
        · exact hji (hl.sv j hj g hV (by rw [hu]; rfl))
        · exact hgt
      · obtain ⟨g', c', e1, e2, e3, e4⟩ := h.lng i (by omega)
        refine ⟨g', c', by rw [if_neg e]; exact e1, e2, fun t ht j v hv => ?_, e4⟩
        rw [hcell _ e4.2]
        exact e3 t ht j v hv
theorem grow_of_fillTi {w0 w : World} {B kb tb cap m : Nat} {V : Nat → Value} {len : Nat → Nat} (h : FillSTi w0 B w kb tb cap m V (fun _ => .slice none 0 0) len (marksTi len)) : GrowSTi w0 B w kb tb cap m V (fun _ => .slice none 0 0) len 0 0 where
  bel := h.bel
  bs := h.bs
  uf := fun _ _ => ⟨_, _, _, rfl⟩
  vlt := fun i hi g hg => ((h.own i hi).lt g hg).2
  rd := fun i hi g t hg ht j v hv => by
    have hj := (List.getElem?_eq_some_iff.1 hv).1
    rw [mk_lenTi] at hj
    have := (h.own i hi).cells hg (t * 3 + j) v (by rw [marks_getTi len i t j ht hj]; exact hv)
    rwa [addr0Ti] at this
  own := fun i _ hi => h.own i hi
  lng := fun i hi => by omega
theorem wpList_append_oneTi {ops : Array Oper} {rest : List Oper} {o : Oper} {a : Act} {W : World} {Q : Exit → Act → World → Prop} (hgd : o.guard = none) (s x : Operand)
    (ho : o.op = .call { callee := .builtin .append, args := #[s, x], argTypes := #[61, 61] }) {B n : Nat} {v : Value} {xs ys : List Value} {ad : Addr}
    (hs : a.eval s = v) (hown : W.ownsRow B 93 3 v n xs) (hx : a.eval x = .slice (some ad) 1 1) (hys : ys.length = 3) (h1 : ∀ u ∈ ys, u.oneCell' = true) (hnew : ∀ j u, ys[j]? = some u → W.cell? (ad.add j) = some u) (h63 : n + 1 ≤ 2000000) (hB : B ≤ W.heap.size)
    (h : ∀ v' W', W'.ownsRow B 93 3 v' (n + 1) (xs ++ ys) → W.grownBy W' v.ownBlock → (v'.ownBlock = v.ownBlock ∨ v'.ownBlock = some W.heap.size) → (∀ g j, g < W.heap.size → (v.ownBlock = some g → j < n * 3) → W'.cell? ⟨g, j, none⟩ = W.cell? ⟨g, j, none⟩) →
      wpList Tryz.prog ops Q rest (a.put o.dst v') W') : wpList Tryz.prog ops Q (o :: rest) a W :=
  wpList_plain hgd fun K hK => by
    obtain ⟨v', W', hr, h1, h2, h3, h4⟩ := run_append_oneTi hown ad ys hys h1 hnew h63 hB o.type
    unfold Oper.wp execOp
    simp only [ho, resolve, invoke, builtin, Sem.run_bind, Sem.run_pure, Result.andThen_ok, List.map_toArray, List.map_cons, List.map_nil, hs, hx, hr]
    exact hK _ _ (h v' W' h1 h2 h3 h4)
end Go.Proofs.YtlahdjdbbfjadaaGreatDoor
