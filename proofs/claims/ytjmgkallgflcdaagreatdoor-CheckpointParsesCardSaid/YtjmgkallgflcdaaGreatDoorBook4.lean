/-
  cartularylaw01.Book over lists of texts: growText by its contract. cartularylaw01.Book over lists of texts: growText, walked.
-/
import Derived.Test.YtjmgkallgflcdaaGreatDoorBook2
import Derived.Deep.MidRow
namespace Go.Proofs.YtjmgkallgflcdaaGreatDoor
open Go.RowKit

theorem wpList_append_one {ops : Array Oper} {rest : List Oper} {o : Oper} {a : Act} {W : World} {Q : Exit → Act → World → Prop} (hgd : o.guard = none) (s x : Operand)
    (ho : o.op = .call { callee := .builtin .append, args := #[s, x], argTypes := #[25, 25] }) {B n : Nat} {v : Value} {xs : List Value} {ad : Addr} {y : ByteArray}
    (hs : a.eval s = v) (hown : W.ownsRow B 9 1 v n xs) (hx : a.eval x = .slice (some ad) 1 1) (hnew : W.cell? ad = some (.string y)) (h63 : n + 1 ≤ 4294967296) (hB : B ≤ W.heap.size)
    (h : ∀ v' W', W'.ownsRow B 9 1 v' (n + 1) (xs ++ [.string y]) → W.grownBy W' v.ownBlock → (v'.ownBlock = v.ownBlock ∨ v'.ownBlock = some W.heap.size) → (∀ g j, g < W.heap.size → (v.ownBlock = some g → j < n) → W'.cell? ⟨g, j, none⟩ = W.cell? ⟨g, j, none⟩) →
      wpList Tryz.prog ops Q rest (a.put o.dst v') W') : wpList Tryz.prog ops Q (o :: rest) a W :=
  wpList_plain hgd fun K hK => by
    obtain ⟨v', W', hr, h1, h2, h3, h4⟩ := run_append_one hown ad y hnew h63 hB o.type
    unfold Oper.wp execOp
    simp only [ho, resolve, invoke, builtin, Sem.run_bind, Sem.run_pure, Result.andThen_ok, List.map_toArray, List.map_cons, List.map_nil, hs, hx, hr]
    exact hK _ _ (h v' W' h1 h2 h3 h4)

/-- The book's state while the lists grow: k of them have. -/
structure GrowS (w0 : World) (B : Nat) (w : World) (kb tb cap m : Nat) (V U : Nat → Value) (len : Nat → Nat) (k ko : Nat) : Prop where
  bel : Below w0.heap.size w0 w
  bs : BookS w kb tb cap m V U
  fz : ∀ j, w.frozen? ⟨tb, j, none⟩ = false
  lt : kb < w.heap.size ∧ tb < w.heap.size
  uf : ∀ i, i < m → ∃ ao n c, U i = .slice ao n c
  vlt : ∀ i, i < m → ∀ g, (V i).ownBlock = some g → g < w.heap.size
  rd : ∀ i, i < m → ∀ g t, (V i).ownBlock = some g → t < len i → w.cell? ⟨g, t, none⟩ = some (markV i)
  own : ∀ i, ko ≤ i → i < m → w.ownsRow B 9 1 (V i) (len i) (marks len i)
  lng : ∀ i, i < k → ∃ g c, U i = .slice (some ⟨g, 0, none⟩) (len i + 70) c ∧ g < w.heap.size ∧ (∀ t, t < len i + 70 → w.cell? ⟨g, t, none⟩ = some (markV i)) ∧ (∀ j, j < m → j ≠ i → (V j).ownBlock ≠ some g) ∧ g ≠ tb
/-- What an append onto the k-th list asks and leaves. -/
structure LongS (B : Nat) (w : World) (kb tb h m : Nat) (V U : Nat → Value) (len : Nat → Nat) (k s : Nat) (u : Value) : Prop where
  own : w.ownsRow B 9 1 u (len k + s) (List.replicate (len k + s) (markV k))
  sv : ∀ i, i < m → ∀ g, (V i).ownBlock = some g → u.ownBlock = some g → i = k
  su : ∀ i, i < k → ∀ g n c, U i = .slice (some ⟨g, 0, none⟩) n c → u.ownBlock ≠ some g
  sb : u.ownBlock ≠ some kb ∧ u.ownBlock ≠ some tb ∧ u.ownBlock ≠ some h
theorem GrowS.below {w0 w w' : World} {B kb tb cap m k ko : Nat} {V U : Nat → Value} {len : Nat → Nat} (h : GrowS w0 B w kb tb cap m V U len k ko) (hb : Below w.heap.size w w') : GrowS w0 B w' kb tb cap m V U len k ko where
  bel := below_trans h.bel hb
  bs := h.bs.below hb
  fz := fun j => by
    rw [World.frozen?_of_block (hb.block tb h.lt.2)]
    exact h.fz j
  lt := ⟨Nat.lt_of_lt_of_le h.lt.1 hb.size, Nat.lt_of_lt_of_le h.lt.2 hb.size⟩
  uf := h.uf
  vlt := fun i hi g hg => Nat.lt_of_lt_of_le (h.vlt i hi g hg) hb.size
  rd := fun i hi g t hg ht => below_cell hb (h.rd i hi g t hg ht)
  own := fun i hk hi => ownsRow_below (h.own i hk hi) hb
  lng := fun i hi => by
    obtain ⟨g, c, h1, h2, h3, h4⟩ := h.lng i hi
    exact ⟨g, c, h1, Nat.lt_of_lt_of_le h2 hb.size, fun t ht => below_cell hb (h3 t ht), h4⟩
theorem LongS.below {w w' : World} {B kb tb hh m k s : Nat} {V U : Nat → Value} {len : Nat → Nat} {u : Value} (h : LongS B w kb tb hh m V U len k s u) (hb : Below w.heap.size w w') : LongS B w' kb tb hh m V U len k s u :=
  ⟨ownsRow_below h.own hb, h.sv, h.su, h.sb⟩
/-- What one text more leaves of the book's state. -/
theorem grow_append {w0 w w' : World} {B kb tb cap m k ko s hh : Nat} {V U : Nat → Value} {len : Nat → Nat} {u u' : Value} (h : GrowS w0 B w kb tb cap m V U len k ko) (hko : k < ko) (hl : LongS B w kb tb hh m V U len k s u) (hB : w0.heap.size ≤ B) (hBw : B ≤ w.heap.size) (hhw : hh < w.heap.size)
    (h1 : w'.ownsRow B 9 1 u' (len k + s + 1) (List.replicate (len k + s) (markV k) ++ [markV k])) (h2 : w.grownBy w' u.ownBlock) (h3 : u'.ownBlock = u.ownBlock ∨ u'.ownBlock = some w.heap.size)
    (h4 : ∀ g j, g < w.heap.size → (u.ownBlock = some g → j < len k + s) → w'.cell? ⟨g, j, none⟩ = w.cell? ⟨g, j, none⟩) :
    GrowS w0 B w' kb tb cap m V U len k ko ∧ LongS B w' kb tb hh m V U len k (s + 1) u' ∧ w'.heap[hh]? = w.heap[hh]? := by
  have hbk : ∀ j : Nat, w'.cell? ⟨kb, j, none⟩ = w.cell? ⟨kb, j, none⟩ := fun j => h4 kb j h.lt.1 (fun e => absurd e hl.sb.1)
  have hbt : ∀ j : Nat, w'.cell? ⟨tb, j, none⟩ = w.cell? ⟨tb, j, none⟩ := fun j => h4 tb j h.lt.2 (fun e => absurd e hl.sb.2.1)
  refine ⟨⟨?_, ⟨by rw [hbk]; exact h.bs.bk, fun i hi => by rw [hbt, hbt, hbt]; exact h.bs.it i hi, fun j x1 x2 x3 => by rw [hbk]; exact h.bs.nl j x1 x2 x3, fun j => by rw [World.frozen?_of_block (h2.block tb h.lt.2 (fun e => hl.sb.2.1 e.symm))]; exact h.fz j, ⟨Nat.lt_of_lt_of_le h.lt.1 h2.size, Nat.lt_of_lt_of_le h.lt.2 h2.size⟩⟩, fun j => ?_, ?_, h.uf, ?_, ?_, ?_, ?_⟩, ⟨?_, ?_, ?_, ?_⟩, ?_⟩
  · refine h.bel.grown h2 (Nat.le_trans hB hBw) fun g hg => ?_
    exact Nat.le_trans hB (hl.own.lt g hg).1
  · rw [World.frozen?_of_block (h2.block tb h.lt.2 (fun e => hl.sb.2.1 e.symm))]
    exact h.fz j
  · exact ⟨Nat.lt_of_lt_of_le h.lt.1 h2.size, Nat.lt_of_lt_of_le h.lt.2 h2.size⟩
  · exact fun i hi g hg => Nat.lt_of_lt_of_le (h.vlt i hi g hg) h2.size
  · intro i hi g t hg ht
    rw [h4 g t (h.vlt i hi g hg) (fun e => by have := hl.sv i hi g hg e; subst this; omega)]
    exact h.rd i hi g t hg ht
  · intro i hki hi
    refine rowKeep (h.own i hki hi) fun g hg => h2.block g (h.vlt i hi g hg) fun e => ?_
    have := hl.sv i hi g hg e.symm
    omega
  · intro i hi
    obtain ⟨g, c, e1, e2, e3, e4⟩ := h.lng i hi
    refine ⟨g, c, e1, Nat.lt_of_lt_of_le e2 h2.size, fun t ht => ?_, e4⟩
    rw [h4 g t e2 (fun e => absurd e (hl.su i hi g _ _ e1))]
    exact e3 t ht
  · rw [show len k + (s + 1) = len k + s + 1 by omega, List.replicate_succ']
    exact h1
  · intro i hi g hg hu
    rcases h3 with e | e
    · exact hl.sv i hi g hg (e ▸ hu)
    · rw [e] at hu
      have := h.vlt i hi g hg
      injection hu with hu
      omega
  · intro i hi g n c hU hu
    rcases h3 with e | e
    · exact hl.su i hi g n c hU (e ▸ hu)
    · obtain ⟨g', c', e1, e2, _⟩ := h.lng i hi
      rw [hU] at e1
      injection e1 with e1 _ _
      injection e1 with e1
      injection e1 with e1 _ _
      rw [e] at hu
      injection hu with hu
      omega
  · rcases h3 with e | e
    · rw [e]; exact hl.sb
    · rw [e]
      have := h.lt
      exact ⟨fun q => by injection q with q; omega, fun q => by injection q with q; omega, fun q => by injection q with q; omega⟩
  · exact h2.block hh hhw (fun e => hl.sb.2.2 e.symm)
theorem grow_start {w0 w : World} {B kb tb cap m k : Nat} {V U : Nat → Value} {len : Nat → Nat} (h : GrowS w0 B w kb tb cap m V U len k k) (hk : k < m) (hh : Nat) (hsep : Sep kb tb m V) (hV : ∀ g, (V k).ownBlock = some g → g ≠ hh) :
    GrowS w0 B w kb tb cap m V U len k (k + 1) ∧ LongS B w kb tb hh m V U len k 0 (V k) := by
  refine ⟨⟨h.bel, h.bs, h.fz, h.lt, h.uf, h.vlt, h.rd, fun i hi hm => h.own i (by omega) hm, h.lng⟩, ⟨h.own k (Nat.le_refl _) hk, fun i hi g hg hu => ?_, fun i hi g n c hU hu => ?_, ?_, ?_, ?_⟩⟩
  · by_cases e : i = k
    · exact e
    · exact absurd hu ((hsep i hi g hg).2.2 k hk (fun q => e q.symm))
  · obtain ⟨g', c', e1, _, _, e4⟩ := h.lng i hi
    rw [hU] at e1
    injection e1 with e1 _ _
    injection e1 with e1
    injection e1 with e1 _ _
    subst e1
    exact e4.1 k hk (by omega) hu
  · exact fun e => (hsep k hk kb e).1 rfl
  · exact fun e => (hsep k hk tb e).2.1 rfl
  · exact fun e => hV hh e rfl
/-- A list has grown: its new value is laid into the book. -/
theorem grow_end {w0 w : World} {B kb tb cap m k hh : Nat} {V U : Nat → Value} {len : Nat → Nat} {u : Value} (h : GrowS w0 B w kb tb cap m V U len k (k + 1)) (hl : LongS B w kb tb hh m V U len k 70 u) (hk : k < m) (hkt : kb ≠ tb) (hB : w0.heap.size ≤ tb) (hsep : Sep kb tb m V) :
    ∃ g c, u = .slice (some ⟨g, 0, none⟩) (len k + 70) c ∧ GrowS w0 B (w.setCell ⟨tb, k * 3 + 1, none⟩ u) kb tb cap m V (fun j => if j = k then u else U j) len (k + 1) (k + 1) := by
  rcases hl.own.2 with ⟨_, h0⟩ | ⟨g, c, cur, hu, hg, hh', hr⟩
  · omega
  · have hgw := lt_of_heap hh'
    have hgt : g ≠ tb := fun e => hl.sb.2.1 (by rw [hu, e]; rfl)
    have hsz : (w.setCell ⟨tb, k * 3 + 1, none⟩ u).heap.size = w.heap.size := by simp
    have hcell : ∀ p : Addr, p.block ≠ tb → (w.setCell ⟨tb, k * 3 + 1, none⟩ u).cell? p = w.cell? p := fun p hp => cell_setCell_ne _ _ _ _ hp
    have hc0 := (h.bs.it k hk).2.1
    have hoff : ∀ j, j ≠ k * 3 + 1 → (w.setCell ⟨tb, k * 3 + 1, none⟩ u).cell? ⟨tb, j, none⟩ = w.cell? ⟨tb, j, none⟩ := fun j hj =>
      World.cell?_setCells_out tb [u] (k * 3 + 1) w ⟨tb, j, none⟩ (fun _ _ => by simp only [List.length_cons, List.length_nil]; omega)
    have hset : (w.setCell ⟨tb, k * 3 + 1, none⟩ u).cell? ⟨tb, k * 3 + 1, none⟩ = some u := World.cell?_setCell_same' w _ u (by rw [hc0]; rfl)
    refine ⟨g, c, hu, ⟨h.bel.setCell (p := ⟨tb, k * 3 + 1, none⟩) hB _, ⟨by rw [hcell _ hkt]; exact h.bs.bk, fun i hi => ?_, fun j x1 x2 x3 => by rw [hcell _ hkt]; exact h.bs.nl j x1 x2 x3, fun j => by rw [World.frozen?_setCell]; exact h.fz j, by rw [hsz]; exact h.lt⟩, fun j => ?_, ?_, fun i hi => ?_, ?_, ?_, ?_, ?_⟩⟩
    · obtain ⟨a, b, d⟩ := h.bs.it i hi
      refine ⟨by rw [hoff _ (by omega)]; exact a, ?_, by rw [hoff _ (by omega)]; exact d⟩
      by_cases e : i = k
      · subst e; rw [hset, if_pos rfl]
      · rw [hoff _ (by omega), if_neg e]; exact b
    · rw [World.frozen?_setCell]
      exact h.fz j
    · have hs : (w.setCell ⟨tb, k * 3 + 1, none⟩ u).heap.size = w.heap.size := by simp
      rw [hs]; exact h.lt
    · by_cases e : i = k
      · exact ⟨_, _, _, by rw [if_pos e]; exact hu⟩
      · rw [if_neg e]; exact h.uf i hi
    · have hs : (w.setCell ⟨tb, k * 3 + 1, none⟩ u).heap.size = w.heap.size := by simp
      rw [hs]; exact h.vlt
    · intro i hi g' t hg' ht
      rw [hcell _ (fun e => (hsep i hi g' hg').2.1 e)]
      exact h.rd i hi g' t hg' ht
    · intro i hki hi
      exact rowKeep (h.own i hki hi) fun g' hg' => heap_setCell_other w _ g' _ (fun e => (hsep i hi g' hg').2.1 e)
    · intro i hi
      have hs : (w.setCell ⟨tb, k * 3 + 1, none⟩ u).heap.size = w.heap.size := by simp
      rw [hs]
      by_cases e : i = k
      · subst e
        have ho := hl.own
        rw [hu] at ho
        refine ⟨g, c, by rw [if_pos rfl]; exact hu, hgw, fun t ht => ?_, fun j hj hji hV => ?_, ?_⟩
        · rw [hcell _ hgt, ho.cellAt t (by omega), List.getElem?_eq_getElem (by rw [List.length_replicate]; omega)]
          simp
        · exact hji (hl.sv j hj g hV (by rw [hu]; rfl))
        · exact hgt
      · obtain ⟨g', c', e1, e2, e3, e4⟩ := h.lng i (by omega)
        refine ⟨g', c', by rw [if_neg e]; exact e1, e2, fun t ht => ?_, e4⟩
        rw [hcell _ e4.2]
        exact e3 t ht
end Go.Proofs.YtjmgkallgflcdaaGreatDoor

namespace Go.Proofs.YtjmgkallgflcdaaGreatDoor
open Go.RowKit

set_option maxHeartbeats 2000000 in
set_option maxRecDepth 100000 in
theorem growText_any (w0 w : World) (B kb tb cap m : Nat) (V U : Nat → Value) (len : Nat → Nat) (hS : GrowS w0 B w kb tb cap m V U len 0 0) (hB : w0.heap.size ≤ B) (hBw : B ≤ w.heap.size) (hBt : w0.heap.size ≤ tb) (hkt : kb ≠ tb) (hsep : Sep kb tb m V) (hlen : ∀ j, j < m → len j ≤ 1048576) (hm : m ≤ 1000) (htab : Tab w0) :
    Calls Tryz.prog 63 #[.pointer (some ⟨kb, 0, none⟩)] w fun e w' => e = .returned (.tuple #[]) ∧ ∃ U', GrowS w0 B w' kb tb cap m V U' len m m := by
  have HS := Lib.hid hS
  have HSEP := Lib.hid hsep
  have HLEN := Lib.hid hlen
  have HTAB := Lib.hid htab
  clear hS hsep htab hlen
  go_enter Tryz.func63, Tryz.ntmps63
  go_wp2_with fail
  go_loopw [2] (fun vi wr => ∃ (i : Nat) (U' : Nat → Value), i ≤ m ∧ vi = .int .i64 i ∧ B ≤ wr.heap.size ∧ GrowS w0 B wr kb tb cap m V U' len i i) (fun vi _ => m - (intOf vi).toNat)
  case atStart => exact ⟨0, U, by omega, rfl, hBw, HS.out⟩
  case round =>
    obtain ⟨i, U', hi, rfl, hBr, hS⟩ := hrel
    have hbk := hS.bs.bk
    have HSI := Lib.hid hS
    by_cases hlt : i < m
    · have i0 : (0 : Int) ≤ (i : Int) := by omega
      have i1 : (i : Int) < (m : Int) := by omega
      obtain ⟨e0, e1, e2⟩ := hS.bs.it i hlt
      have hob : ∃ ao c, V i = .slice ao (len i) c := by
        rcases (hS.own i (Nat.le_refl _) hlt).2 with ⟨h, hn⟩ | ⟨g, c, cur, h, _⟩
        · exact ⟨none, 0, by rw [h, hn]⟩
        · exact ⟨_, _, h⟩
      obtain ⟨ao, c, hV⟩ := hob
      obtain ⟨uo, un, uc, hUi⟩ := hS.uf i hlt
      rw [hV] at e0
      rw [hUi] at e1
      have HV := Lib.hid hV
      have hli := HLEN.out i hlt
      clear hS hV hUi
      have ba : Below wr.heap.size wr (wr.alloc (.cells #[.slice ao (len i) c, .slice uo un uc, .int .i64 ((i : Int) + 1)] 126)) := (Below.refl _ _).alloc (Nat.le_refl _) _
      have hra : (wr.alloc (.cells #[.slice ao (len i) c, .slice uo un uc, .int .i64 ((i : Int) + 1)] 126)).heap[wr.heap.size]? = some (.cells #[.slice ao (len i) c, .slice uo un uc, .int .i64 ((i : Int) + 1)] 126 (0, 0)) := heap_alloc_new wr _
      have hsza : (wr.alloc (.cells #[.slice ao (len i) c, .slice uo un uc, .int .i64 ((i : Int) + 1)] 126)).heap.size = wr.heap.size + 1 := by simp
      have hst := grow_start (HSI.out.below ba) hlt wr.heap.size HSEP.out (fun g hg => by have := HSI.out.vlt i hlt g hg; omega)
      have HGA := Lib.hid hst.1
      have HLA := Lib.hid hst.2
      have HRA := Lib.hid hra
      clear ba hra hst
      have q0 : (wr.alloc (.cells #[.slice ao (len i) c, .slice uo un uc, .int .i64 ((i : Int) + 1)] 126)).cell? ⟨wr.heap.size, 0, none⟩ = some (.slice ao (len i) c) := by rw [cell_of_row _ _ 0 _ _ _ HRA.out]; rfl
      go_wp2_with fail
      generalize wr.alloc (.cells #[.slice ao (len i) c, .slice uo un uc, .int .i64 ((i : Int) + 1)] 126) = wa at *
      go_loopw [4, 5] (fun vl vs wq => ∃ (s : Nat) (u : Value), s ≤ 70 ∧ vs = .int .i64 s ∧ vl = u ∧ wa.heap.size ≤ wq.heap.size ∧ GrowS w0 B wq kb tb cap m V U' len i (i + 1) ∧ LongS B wq kb tb wr.heap.size m V U' len i s u ∧ wq.heap[wr.heap.size]? = some (.cells #[.slice ao (len i) c, .slice uo un uc, .int .i64 ((i : Int) + 1)] 126 (0, 0))) (fun _ vs _ => 70 - (intOf vs).toNat)
      case atStart => exact ⟨0, V i, by omega, rfl, HV.out.symm, Nat.le_refl _, HGA.out, HLA.out, HRA.out⟩
      case round =>
        rename World => wq
        obtain ⟨s, u, hs, rfl, rfl, hszq, hG, hL, hrq⟩ := hrel
        have HGQ := Lib.hid hG
        have HLQ := Lib.hid hL
        have HRQ := Lib.hid hrq
        have k2 : wq.cell? ⟨wr.heap.size, 2, none⟩ = some (.int .i64 ((i : Int) + 1)) := by rw [cell_of_row _ _ 2 _ _ _ hrq]; rfl
        by_cases hs7 : s < 70
        · have i3 : (s : Int) < 70 := by omega
          have HTQ := Lib.hid (tab_below HTAB.out hG.bel)
          clear hG hL hrq
          go_wp2_with fail
          refine (markText_any ((i : Int) + 1) (by omega) (by omega) _ HTQ.out).mono ?_
          rintro e w3 ⟨rfl, b3⟩
          have b4 : Below w3.heap.size w3 (w3.alloc (.cells #[markV i] 9)) := (Below.refl _ _).alloc (Nat.le_refl _) _
          have HG4 := Lib.hid ((HGQ.out.below b3).below b4)
          have HL4 := Lib.hid ((HLQ.out.below b3).below b4)
          have HR4 := Lib.hid (below_heap b4 (below_heap b3 HRQ.out))
          have hnew : (w3.alloc (.cells #[markV i] 9)).cell? ⟨w3.heap.size, 0, none⟩ = some (markV i) := by
            rw [cell_of_row _ _ 0 _ _ _ (heap_alloc_new w3 _)]
            rfl
          have hs4 : (w3.alloc (.cells #[markV i] 9)).heap.size = w3.heap.size + 1 := by simp
          have hsz3 := b3.size
          have HNEW := Lib.hid hnew
          clear b3 b4 hnew
          unfold markV at HNEW HG4 HL4 HR4
          go_wp2_with (at_builtin; refine wpList_append_one rfl (.tmp 28) (.tmp 32) rfl (B := B) (n := len i + s) rfl HL4.out.own rfl HNEW.out (by omega) (by have := hs4; unfold markV at this; omega) ?_)
          intro v' W5 g1 g2 g3 g4
          have hs5 : (w3.alloc (.cells #[.string (wordB ((i : Int) + 1))] 9)).heap.size = w3.heap.size + 1 := by simp
          generalize w3.alloc (.cells #[.string (wordB ((i : Int) + 1))] 9) = wb at *
          rw [← hs5] at g3 g4
          obtain ⟨j1, j2, j3⟩ := grow_append HG4.out (by omega) HL4.out hB (by omega) (by omega) g1 g2 g3 g4
          have HG5 := Lib.hid j1
          have HL5 := Lib.hid j2
          have HR5 := Lib.hid (j3.trans HR4.out)
          have hsz5 := g2.size
          clear j1 j2 j3 g1 g2 g3 g4
          go_wp2_with fail
          go_roundw
          case rel => exact ⟨s + 1, v', by omega, by go_num, rfl, by omega, HG5.out, HL5.out, HR5.out⟩
          case measure => simp [intOf]; omega
        · obtain rfl : s = 70 := by omega
          obtain ⟨g, c', rfl, hge⟩ := grow_end hG hL hlt hkt hBt HSEP.out
          have hbq := hG.bs.bk
          obtain ⟨x0, x1, x2⟩ := hG.bs.it i hlt
          have hfz := hG.fz (i * 3 + 1)
          have HGE := Lib.hid hge
          clear hG hL hrq hge x0 x2
          go_wp2_with fail
          go_roundw
          case rel => exact ⟨i + 1, _, by omega, by go_num, by simp; omega, HGE.out⟩
          case measure => simp [intOf]; omega
    · obtain rfl : i = m := by omega
      have i1 : ¬ (i : Int) < (i : Int) := by omega
      clear hS
      go_wp2_with fail
      go_end0
      exact ⟨rfl, U', HSI.out⟩
end Go.Proofs.YtjmgkallgflcdaaGreatDoor
