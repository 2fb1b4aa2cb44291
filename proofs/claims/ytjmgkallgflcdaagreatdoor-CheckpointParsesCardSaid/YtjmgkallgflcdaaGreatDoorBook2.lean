/-
  cartularylaw01.Book over lists of texts: the book's state; fillText by its contract.
-/
import Derived.Test.YtjmgkallgflcdaaGreatDoorBook1
import Derived.Deep.RegionWith
namespace Go.Proofs.YtjmgkallgflcdaaGreatDoor
open Go.RowKit

/-- The list of the held texts, read through the book. -/
structure BookS (w : World) (kb tb cap m : Nat) (V U : Nat → Value) : Prop where
  bk : w.cell? ⟨kb, 3, none⟩ = some (.slice (some ⟨tb, 0, none⟩) m cap)
  it : ∀ i, i < m → w.cell? ⟨tb, i * 3, none⟩ = some (V i) ∧ w.cell? ⟨tb, i * 3 + 1, none⟩ = some (U i) ∧ w.cell? ⟨tb, i * 3 + 2, none⟩ = some (.int .i64 ((i : Int) + 1))
  nl : ∀ j, 1 ≤ j → j ≤ 16 → j ≠ 3 → w.cell? ⟨kb, j, none⟩ = some (.slice none 0 0)
  fz : ∀ j, w.frozen? ⟨tb, j, none⟩ = false
  lt : kb < w.heap.size ∧ tb < w.heap.size
theorem cell_setCell_ne (w : World) (p : Addr) (v : Value) (q : Addr) (h : q.block ≠ p.block) : (w.setCell p v).cell? q = w.cell? q := World.cell?_of_block (heap_setCell_other w p q.block v h)
theorem BookS.set {w : World} {kb tb cap m : Nat} {V U : Nat → Value} (h : BookS w kb tb cap m V U) (g j : Nat) (v : Value) (h1' : g ≠ kb) (h2 : g ≠ tb) : BookS (w.setCell ⟨g, j, none⟩ v) kb tb cap m V U :=
  ⟨by rw [cell_setCell_ne _ _ _ _ (fun e => h1' e.symm)]; exact h.bk, fun i hi => by
    rw [cell_setCell_ne _ _ _ _ (fun e => h2 e.symm), cell_setCell_ne _ _ _ _ (fun e => h2 e.symm), cell_setCell_ne _ _ _ _ (fun e => h2 e.symm)]
    exact h.it i hi, fun j h1 h2 h3 => by rw [cell_setCell_ne _ _ _ _ (fun e => h1' e.symm)]; exact h.nl j h1 h2 h3, fun j => by rw [World.frozen?_setCell]; exact h.fz j, by
    have hs : (w.setCell ⟨g, j, none⟩ v).heap.size = w.heap.size := by simp
    rw [hs]; exact h.lt⟩
theorem BookS.below {w w' : World} {kb tb cap m : Nat} {V U : Nat → Value} (h : BookS w kb tb cap m V U) (hb : Below w.heap.size w w') : BookS w' kb tb cap m V U :=
  ⟨below_cell hb h.bk, fun i hi => ⟨below_cell hb (h.it i hi).1, below_cell hb (h.it i hi).2.1, below_cell hb (h.it i hi).2.2⟩, fun j h1 h2 h3 => below_cell hb (h.nl j h1 h2 h3), fun j => by rw [World.frozen?_of_block (hb.block tb h.lt.2)]; exact h.fz j, ⟨Nat.lt_of_lt_of_le h.lt.1 hb.size, Nat.lt_of_lt_of_le h.lt.2 hb.size⟩⟩
theorem rowKeep {w w' : World} {B : Nat} {e : TypeId} {size : Nat} {v : Value} {n : Nat} {xs : List Value} (h : w.ownsRow B e size v n xs) (hb : ∀ g, v.ownBlock = some g → w'.heap[g]? = w.heap[g]?) : w'.ownsRow B e size v n xs := by
  refine ⟨h.1, ?_⟩
  rcases h.2 with h' | ⟨g, cap, cur, rfl, hg, hh, hr⟩
  · exact .inl h'
  · exact .inr ⟨g, cap, cur, rfl, hg, (hb g rfl).trans hh, hr⟩
def markV (i : Nat) : Value := .string (wordB ((i : Int) + 1))
def marks (len : Nat → Nat) (j : Nat) : List Value := List.replicate (len j) (markV j)
def fillC (X : Nat → List Value) (len : Nat → Nat) (i t : Nat) : Nat → List Value := fun j => if j < i then marks len j else if j = i then List.replicate t (markV i) ++ (X i).drop t else X j
/-- No two of the lists, and not the book's own rows, lie in one block. -/
def Sep (kb tb m : Nat) (V : Nat → Value) : Prop := ∀ i, i < m → ∀ g, (V i).ownBlock = some g → g ≠ kb ∧ g ≠ tb ∧ ∀ j, j < m → j ≠ i → (V j).ownBlock ≠ some g
structure FillS (w0 : World) (B : Nat) (w : World) (kb tb cap m : Nat) (V U : Nat → Value) (len : Nat → Nat) (C : Nat → List Value) : Prop where
  bel : Below w0.heap.size w0 w
  bs : BookS w kb tb cap m V U
  own : ∀ j, j < m → w.ownsRow B 9 1 (V j) (len j) (C j)
theorem FillS.below {w0 w w' : World} {B kb tb cap m : Nat} {V U : Nat → Value} {len : Nat → Nat} {C : Nat → List Value} (h : FillS w0 B w kb tb cap m V U len C) (hb : Below w.heap.size w w') : FillS w0 B w' kb tb cap m V U len C :=
  ⟨below_trans h.bel hb, h.bs.below hb, fun j hj => ownsRow_below (h.own j hj) hb⟩
theorem set_mark (X : List Value) (t : Nat) (v : Value) (ht : t < X.length) : (List.replicate t v ++ X.drop t).set t v = List.replicate (t + 1) v ++ X.drop (t + 1) := by
  have hl : (List.replicate t v).length = t := List.length_replicate
  rw [List.set_append_right _ _ (by omega), hl, Nat.sub_self, List.drop_eq_getElem_cons ht, List.set_cons_zero, List.replicate_succ']
  simp
theorem fill_step {w0 w : World} {B kb tb cap m i t : Nat} {V U : Nat → Value} {len : Nat → Nat} {X : Nat → List Value} (h : FillS w0 B w kb tb cap m V U len (fillC X len i t)) (hB : w0.heap.size ≤ B) (hsep : Sep kb tb m V) (hX : ∀ j, j < m → (X j).length = len j) (hi : i < m) (ht : t < len i) :
    ∃ g c u, V i = .slice (some ⟨g, 0, none⟩) (len i) c ∧ w.cell? ⟨g, t, none⟩ = some u ∧ w.frozen? ⟨g, t, none⟩ = false ∧ g < w.heap.size ∧ FillS w0 B (w.setCell ⟨g, t, none⟩ (markV i)) kb tb cap m V U len (fillC X len i (t + 1)) := by
  have ho := h.own i hi
  rcases ho.2 with ⟨_, h0⟩ | ⟨g, c, cur, hV, hg, hh, hr⟩
  · omega
  · have ho' := ho
    rw [hV] at ho'
    have hc : ∃ u, w.cell? ⟨g, t, none⟩ = some u := by
      rw [ho'.cellAt t (by omega)]
      exact ⟨_, List.getElem?_eq_getElem (by have := ho.1; omega)⟩
    obtain ⟨u, hu⟩ := hc
    obtain ⟨s1, s2, s3⟩ := hsep i hi g (by rw [hV]; rfl)
    refine ⟨g, c, u, hV, hu, ho'.frozenAt t, lt_of_heap hh, h.bel.setCell (p := ⟨g, t, none⟩) (Nat.le_trans hB hg) _, h.bs.set g t _ s1 s2, fun j hj => ?_⟩
    by_cases hji : j = i
    · subst hji
      have hst := (ho'.stored t (markV j)).1
      rw [← hV] at hst
      have e : (fillC X len j t j).set t (markV j) = fillC X len j (t + 1) j := by
        unfold fillC
        rw [if_neg (by omega), if_pos rfl, if_neg (by omega), if_pos rfl]
        exact set_mark (X j) t (markV j) (by rw [hX j hj]; exact ht)
      rw [e] at hst
      exact hst
    · have e : fillC X len i (t + 1) j = fillC X len i t j := by
        unfold fillC
        by_cases hlt : j < i
        · rw [if_pos hlt, if_pos hlt]
        · rw [if_neg hlt, if_neg hji, if_neg hlt, if_neg hji]
      rw [e]
      exact rowKeep (h.own j hj) (fun g' hg' => heap_setCell_other w ⟨g, t, none⟩ g' _ (fun e2 => s3 j hj hji (by rw [hg']; exact congrArg some e2)))
theorem fill_at {w0 w : World} {B kb tb cap m i t g c : Nat} {V U : Nat → Value} {len : Nat → Nat} {X : Nat → List Value} (h : FillS w0 B w kb tb cap m V U len (fillC X len i t)) (hB : w0.heap.size ≤ B) (hsep : Sep kb tb m V) (hX : ∀ j, j < m → (X j).length = len j) (hi : i < m) (ht : t < len i) (hV : V i = .slice (some ⟨g, 0, none⟩) (len i) c) :
    (∃ u, w.cell? ⟨g, t, none⟩ = some u) ∧ w.frozen? ⟨g, t, none⟩ = false ∧ FillS w0 B (w.setCell ⟨g, t, none⟩ (markV i)) kb tb cap m V U len (fillC X len i (t + 1)) := by
  obtain ⟨g', c', u, h1, h2, h3, _, h4⟩ := fill_step h hB hsep hX hi ht
  rw [hV] at h1
  injection h1 with e1 _ _
  injection e1 with e1
  injection e1 with e1 _ _
  subst e1
  exact ⟨⟨u, h2⟩, h3, h4⟩
theorem fillC_next (X : Nat → List Value) (len : Nat → Nat) (i : Nat) (hX : (X i).length = len i) : fillC X len i (len i) = fillC X len (i + 1) 0 := by
  funext j
  unfold fillC
  rcases Nat.lt_trichotomy j i with h | h | h
  · rw [if_pos h, if_pos (by omega)]
  · subst h
    rw [if_neg (by omega), if_pos rfl, if_pos (by omega), List.drop_eq_nil_of_le (by omega), List.append_nil]
    rfl
  · rw [if_neg (by omega), if_neg (by omega), if_neg (by omega)]
    by_cases h2 : j = i + 1
    · subst h2; rw [if_pos rfl]; simp
    · rw [if_neg h2]

set_option maxHeartbeats 2000000 in
set_option maxRecDepth 100000 in
theorem fillText_any (w0 w : World) (B kb tb cap m : Nat) (V U : Nat → Value) (len : Nat → Nat) (X : Nat → List Value) (hS : FillS w0 B w kb tb cap m V U len X) (hB : w0.heap.size ≤ B) (hsep : Sep kb tb m V) (hU : ∀ j, j < m → ∃ ao n c, U j = .slice ao n c) (hlen : ∀ j, j < m → len j ≤ 1048576) (hm : m ≤ 1000) (htab : Tab w0) :
    Calls Tryz.prog 47 #[.pointer (some ⟨kb, 0, none⟩)] w fun e w' => e = .returned (.tuple #[]) ∧ FillS w0 B w' kb tb cap m V U len (marks len) := by
  have HX := Lib.hid (fun j (hj : j < m) => (by have := (hS.own j hj).1; omega : (X j).length = len j))
  have h0 : fillC X len 0 0 = X := by
    funext j
    unfold fillC
    rw [if_neg (by omega)]
    by_cases hj : j = 0
    · subst hj; rw [if_pos rfl]; simp
    · rw [if_neg hj]
  rw [← h0] at hS
  have HS := Lib.hid hS
  have hbk := hS.bs.bk
  have HSEP := Lib.hid hsep
  have HU := Lib.hid hU
  have HLEN := Lib.hid hlen
  have HTAB := Lib.hid htab
  clear hS hsep htab h0 hlen hU
  go_enter Tryz.func47, Tryz.ntmps47
  go_wp2_with fail
  go_loopw [2] (fun vi wr => ∃ i : Nat, i ≤ m ∧ vi = .int .i64 i ∧ FillS w0 B wr kb tb cap m V U len (fillC X len i 0)) (fun vi _ => m - (intOf vi).toNat)
  case atStart => exact ⟨0, by omega, rfl, HS.out⟩
  case round =>
    obtain ⟨i, hi, rfl, hS⟩ := hrel
    have hbk := hS.bs.bk
    have HSI := Lib.hid hS
    by_cases hlt : i < m
    · have i0 : (0 : Int) ≤ (i : Int) := by omega
      have i1 : (i : Int) < (m : Int) := by omega
      obtain ⟨e0, e1, e2⟩ := hS.bs.it i hlt
      have hob : ∃ ao c, V i = .slice ao (len i) c := by
        rcases (hS.own i hlt).2 with ⟨h, hn⟩ | ⟨g, c, cur, h, _⟩
        · exact ⟨none, 0, by rw [h, hn]⟩
        · exact ⟨_, _, h⟩
      obtain ⟨ao, c, hV⟩ := hob
      obtain ⟨uo, un, uc, hUi⟩ := HU.out i hlt
      rw [hV] at e0
      rw [hUi] at e1
      have HV := Lib.hid hV
      have hli := HLEN.out i hlt
      clear hS hV hUi
      have ba : Below wr.heap.size wr (wr.alloc (.cells #[.slice ao (len i) c, .slice uo un uc, .int .i64 ((i : Int) + 1)] 126)) := (Below.refl _ _).alloc (Nat.le_refl _) _
      have hra : (wr.alloc (.cells #[.slice ao (len i) c, .slice uo un uc, .int .i64 ((i : Int) + 1)] 126)).heap[wr.heap.size]? = some (.cells #[.slice ao (len i) c, .slice uo un uc, .int .i64 ((i : Int) + 1)] 126 (0, 0)) := heap_alloc_new wr _
      have HSA := Lib.hid (HSI.out.below ba)
      have HRA := Lib.hid hra
      have hsza : (wr.alloc (.cells #[.slice ao (len i) c, .slice uo un uc, .int .i64 ((i : Int) + 1)] 126)).heap.size = wr.heap.size + 1 := by simp
      have HGL := Lib.hid (fun g (hg : (V i).ownBlock = some g) => ((HSI.out.own i hlt).lt g hg).2)
      clear ba hra
      go_wp2_with fail
      generalize wr.alloc (.cells #[.slice ao (len i) c, .slice uo un uc, .int .i64 ((i : Int) + 1)] 126) = wa at *
      go_loopw [4] (fun vk wq => ∃ t : Nat, t ≤ len i ∧ vk = .int .i64 t ∧ FillS w0 B wq kb tb cap m V U len (fillC X len i t) ∧ wq.heap[wr.heap.size]? = some (.cells #[.slice ao (len i) c, .slice uo un uc, .int .i64 ((i : Int) + 1)] 126 (0, 0))) (fun vk _ => len i - (intOf vk).toNat)
      case atStart => exact ⟨0, by omega, rfl, HSA.out, HRA.out⟩
      case round =>
        rename World => wq
        obtain ⟨t, ht, rfl, hSq, hrq⟩ := hrel
        have HSQ := Lib.hid hSq
        have HRQ := Lib.hid hrq
        have k0 : wq.cell? ⟨wr.heap.size, 0, none⟩ = some (.slice ao (len i) c) := by rw [cell_of_row _ _ 0 _ _ _ hrq]; rfl
        have k2 : wq.cell? ⟨wr.heap.size, 2, none⟩ = some (.int .i64 ((i : Int) + 1)) := by rw [cell_of_row _ _ 2 _ _ _ hrq]; rfl
        by_cases htl : t < len i
        · have i2 : (0 : Int) ≤ (t : Int) := by omega
          have i3 : (t : Int) < (len i : Int) := by omega
          have hg0 : ∃ g, ao = some ⟨g, 0, none⟩ := by
            rcases (hSq.own i hlt).2 with ⟨_, h⟩ | ⟨g, c', cur, h, _⟩
            · omega
            · rw [HV.out] at h
              injection h with h1
              exact ⟨g, h1⟩
          obtain ⟨g, rfl⟩ := hg0
          have HST := Lib.hid (fun w3 (b3 : Below wq.heap.size wq w3) => fill_at (hSq.below b3) hB HSEP.out HX.out hlt htl HV.out)
          have HMK := Lib.hid (fun W (h : Tab W) => markText_any ((i : Int) + 1) (by omega) (by omega) W h)
          have HTQ := Lib.hid (show Tab wq.drew from (tab_below HTAB.out hSq.bel : Tab wq))
          have hgl := HGL.out g (by rw [HV.out]; rfl)
          clear hSq hrq
          go_upto_region 7 with fail
          go_region_with (go_at_call 98; refine (HMK.out _ HTQ.out).mono ?_; rintro e w3 ⟨rfl, b3⟩; have b4 : Below wq.heap.size wq w3 := ((Below.refl _ _).drew).trans b3; obtain ⟨⟨u', q1⟩, q2, q3⟩ := HST.out w3 b4; have HQ3 := Lib.hid q3; have m0 := below_cell b4 k0; have HRW := Lib.hid (below_heap b4 HRQ.out); clear q3)
          all_goals
            simp only [Exit.inBlock, Exit.then]
            go_wp2_with fail
            go_roundw
            case rel => exact ⟨t + 1, by omega, by go_num, HQ3.out, by rw [heap_setCell_other _ _ _ _ (show wr.heap.size ≠ g by omega)]; exact HRW.out⟩
            case measure => simp [intOf]; omega
        · obtain rfl : t = len i := by omega
          have i3 : ¬ (len i : Int) < (len i : Int) := by omega
          have hn := fillC_next X len i (HX.out i hlt)
          rw [hn] at hSq
          have HSN := Lib.hid hSq
          clear hSq hrq hn
          go_wp2_with fail
          go_roundw
          case rel => exact ⟨i + 1, by omega, by go_num, HSN.out⟩
          case measure => simp [intOf]; omega
    · obtain rfl : i = m := by omega
      have i1 : ¬ (i : Int) < (i : Int) := by omega
      clear hS
      go_wp2_with fail
      go_end0
      refine ⟨rfl, HSI.out.bel, HSI.out.bs, fun j hj => ?_⟩
      have h := HSI.out.own j hj
      unfold fillC at h
      rw [if_pos hj] at h
      exact h
end Go.Proofs.YtjmgkallgflcdaaGreatDoor
