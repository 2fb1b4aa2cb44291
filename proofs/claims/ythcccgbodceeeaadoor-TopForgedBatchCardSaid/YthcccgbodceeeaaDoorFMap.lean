/-
  forge.laid by its contract: a map from stretches to hashes, and how it is looked up.
-/
import Derived.Test.YthcccgbodceeeaaDoorFVerify
import Derived.Maps.OwnSet
import Derived.DeepKeys4
namespace Go.Proofs.YthcccgbodceeeaaDoor
open Go.RowKit Go.Maps

set_option maxRecDepth 100000 in
theorem laidOutA : laidOutB Tryd.prog = true := by kernel_rfl
theorem spanWide : (match Tryd.prog.underlying 65 with | some (.array _ _) | some (.struct _) => true | _ => false) = true := by kernel_rfl
theorem spanKeyAt : Tryd.prog.keyTypeAt 5 65 = true := by kernel_rfl
theorem spanSize : Tryd.prog.types.size = 162 := by kernel_rfl
theorem spanRow : 65 < Tryd.prog.types.size := by rw [spanSize]; decide
set_option maxRecDepth 100000 in
theorem klaw : WideMaps.KeyLaw Tryd.prog 65 := deep_law_laid laidOutA (m := 5) (by omega) spanRow spanKeyAt spanWide
/-- What a stretch reads as, where it is a key. -/
def skey (b e : Nat) : Lit := .string (keyBytes [.int .u64 (b : Int), .int .u64 (e : Int)])
theorem keyLits_span (D : Nat) (b e : Int) (w1 : (Lit.int .u64 b).wf = true) (w2 : (Lit.int .u64 e).wf = true) : Tryd.prog.keyLits (D + 2) 65 [.int .u64 b, .int .u64 e] = some [.int .u64 b, .int .u64 e] := by
  unfold Program.keyLits
  simp [Tryd.underlying65, show Tryd.prog.cellsOf 65 = 2 from by kernel_rfl, Program.keyLits, Tryd.underlying23, show Tryd.prog.cellsOf 23 = 1 from by kernel_rfl, w1, w2]
set_option maxRecDepth 100000 in
theorem keyOf_span (b e : Nat) (hb : b ≤ 18446744073709551615) (he : e ≤ 18446744073709551615) : keyOf Tryd.prog 65 (spanV b e) = some (skey b e) := by
  have w1 : (Lit.int .u64 (b : Int)).wf = true := WalkArith.wf_u64 ⟨by omega, by omega⟩
  have w2 : (Lit.int .u64 (e : Int)).wf = true := WalkArith.wf_u64 ⟨by omega, by omega⟩
  unfold keyOf spanV
  rw [Tryd.underlying65]
  have hf : (Value.agg #[.int .u64 (b : Int), .int .u64 (e : Int)]).formed Tryd.prog 65 = true := by
    simp only [Value.formed, Tryd.underlying65, show Tryd.prog.cellsOf 65 = 2 from by kernel_rfl]
    rfl
  have hk : Tryd.prog.keyType 65 = true := by kernel_rfl
  have hl : Tryd.prog.keyLits (Tryd.prog.types.size + 1) 65 (Value.agg #[.int .u64 (b : Int), .int .u64 (e : Int)]).cells.toList = some [.int .u64 (b : Int), .int .u64 (e : Int)] := by
    rw [spanSize]
    exact keyLits_span (162 - 1) _ _ w1 w2
  simp only [hk, hf, hl, Bool.and_self, if_true, Option.map_some]
  rfl
/-- How a hash among a map's elements reads: its bytes. -/
noncomputable def hR (v : Value) : Option (DataW Unit × List MemPlace) :=
  open Classical in if h : ∃ l : List UInt8, v = .agg (Lib.byteCells l).toArray then some (.lit (.string h.choose), []) else none
theorem byteCells_inj {a b : List UInt8} (h : Lib.byteCells a = Lib.byteCells b) : a = b := by
  refine List.ext_getElem? fun i => ?_
  have h1 := congrArg (fun x : List Value => x[i]?) h
  simp only [Lib.byteCells, List.getElem?_map] at h1
  rcases ha : a[i]? with _ | x <;> rcases hb : b[i]? with _ | y <;> rw [ha, hb] at h1
  · simp at h1
  · simp at h1
  · simp only [Option.map_some, Option.some.injEq, Value.int.injEq] at h1
    have h2 : x = y := UInt8.toNat_inj.1 (by have := h1.2; omega)
    rw [h2]
theorem snoc_ind {α : Type} {P : List α → Prop} (h0 : P []) (h1 : ∀ l a, P l → P (l ++ [a])) (l : List α) : P l := by
  have h : ∀ r : List α, P r.reverse := fun r => by
    induction r with
    | nil => exact h0
    | cons a r ih => rw [List.reverse_cons]; exact h1 _ _ ih
  have h2 := h l.reverse
  rwa [List.reverse_reverse] at h2
theorem hR_mk (l : List UInt8) : hR (.agg (Lib.byteCells l).toArray) = some (.lit (.string l), []) := by
  have h : ∃ m : List UInt8, (Value.agg (Lib.byteCells l).toArray) = .agg (Lib.byteCells m).toArray := ⟨l, rfl⟩
  unfold hR
  rw [dif_pos h]
  have h2 := h.choose_spec
  injection h2 with h2
  have h3 := byteCells_inj (List.toArray_inj h2)
  exact congrArg (fun x => some (DataW.lit (Lit.string x), ([] : List MemPlace))) h3.symm
theorem hR_inv {v : Value} {l : List UInt8} {ps : List MemPlace} (h : hR v = some (.lit (.string l), ps)) : v = .agg (Lib.byteCells l).toArray := by
  unfold hR at h
  split at h
  · rename_i hx
    simp only [Option.some.injEq, Prod.mk.injEq, DataW.lit.injEq, Lit.string.injEq] at h
    rw [← h.1]
    exact hx.choose_spec
  · cases h
/-- The datum of a map that was filled so. -/
def mapD : List ((Nat × Nat) × List UInt8) → DataW Unit
  | l => l.foldl (fun D p => D.put (skey p.1.1 p.1.2) (.lit (.string p.2))) (.map [])
theorem mapD_snoc (l : List ((Nat × Nat) × List UInt8)) (p : (Nat × Nat) × List UInt8) : mapD (l ++ [p]) = (mapD l).put (skey p.1.1 p.1.2) (.lit (.string p.2)) := by simp [mapD]
theorem skey_inj {s t : Nat × Nat} (hs : s.1 ≤ 18446744073709551615 ∧ s.2 ≤ 18446744073709551615) (ht : t.1 ≤ 18446744073709551615 ∧ t.2 ≤ 18446744073709551615) (h : skey s.1 s.2 = skey t.1 t.2) : s = t := by
  have h1 := keyOf_span s.1 s.2 hs.1 hs.2
  have h2 := keyOf_span t.1 t.2 ht.1 ht.2
  rw [h] at h1
  have h3 := klaw.inj h1 h2
  simp only [spanV, Value.agg.injEq] at h3
  have h4 := congrArg Array.toList h3
  simp only [List.cons.injEq, Value.int.injEq] at h4
  obtain ⟨⟨_, a⟩, ⟨_, b⟩, _⟩ := h4
  exact Prod.ext (by omega) (by omega)
theorem skey_key (b e : Nat) : WideAt.IsKeyLit (skey b e) := trivial
theorem mapD_isMap (l : List ((Nat × Nat) × List UInt8)) : IsMap (mapD l) := by
  induction l using snoc_ind with
  | h0 => exact isMap_empty
  | h1 l p ih => rw [mapD_snoc]; exact ih.put _ _
/-- The small ones. -/
def SmallKeys (l : List ((Nat × Nat) × List UInt8)) : Prop := ∀ p ∈ l, p.1.1 ≤ 18446744073709551615 ∧ p.1.2 ≤ 18446744073709551615
theorem lookup_snoc (l : List ((Nat × Nat) × List UInt8)) (p : (Nat × Nat) × List UInt8) (s : Nat × Nat) (hd : ∀ q ∈ l, q.1 ≠ p.1) : (l ++ [p]).lookup s = if s = p.1 then some p.2 else l.lookup s := by
  induction l with
  | nil =>
    simp only [List.nil_append, List.lookup]
    by_cases h : s = p.1
    · rw [if_pos h, h]; simp
    · rw [if_neg h, beq_eq_false_iff_ne.2 h]
  | cons q r ih =>
    simp only [List.cons_append, List.lookup]
    by_cases h : s = q.1
    · rw [h]
      simp only [beq_self_eq_true]
      rw [if_neg (hd q (List.mem_cons_self ..))]
    · rw [beq_eq_false_iff_ne.2 h]
      exact ih fun x hx => hd x (List.mem_cons_of_mem _ hx)
theorem mapD_look (l : List ((Nat × Nat) × List UInt8)) (hk : SmallKeys l) (hd : l.Pairwise (fun p q => p.1 ≠ q.1)) (s : Nat × Nat) (hs : s.1 ≤ 18446744073709551615 ∧ s.2 ≤ 18446744073709551615) (z : List UInt8) :
    Maps.has (mapD l) (skey s.1 s.2) = (l.lookup s).isSome ∧ (mapD l).atKey (skey s.1 s.2) (.lit (.string z)) = .lit (.string ((l.lookup s).getD z)) := by
  induction l using snoc_ind with
  | h0 => exact ⟨rfl, rfl⟩
  | h1 l p ih =>
    obtain ⟨h1, _, h2⟩ := List.pairwise_append.1 hd
    obtain ⟨i1, i2⟩ := ih (fun q hq => hk q (List.mem_append_left _ hq)) h1
    rw [mapD_snoc, lookup_snoc l p s (fun q hq => h2 q hq p (List.mem_singleton.2 rfl))]
    by_cases h : s = p.1
    · subst h
      rw [if_pos rfl]
      exact ⟨has_put_same (mapD_isMap l) (skey_key _ _) _, atKey_put_same (mapD_isMap l) (skey_key _ _) _ _⟩
    · have hne : skey s.1 s.2 ≠ skey p.1.1 p.1.2 := fun e => h (skey_inj hs (hk p (List.mem_append_right _ (List.mem_singleton.2 rfl))) e)
      rw [if_neg h, has_put_other hne, atKey_put_other hne]
      exact ⟨i1, i2⟩
/-- Block m is the map that was filled so. -/
def MapAt (W : World) (m : Nat) (l : List ((Nat × Nat) × List UInt8)) : Prop := ∃ n, W.ownsMap Tryd.prog 65 hR m n (mapD l)
theorem MapAt.below {w w' : World} {m : Nat} {l : List ((Nat × Nat) × List UInt8)} (h : MapAt w m l) (hb : Below w.heap.size w w') : MapAt w' m l := by
  obtain ⟨n, h⟩ := h
  exact ⟨n, h.kept (below_grown (row := none) hb) (by simp)⟩
theorem zeroHash : ∃ zl : List UInt8, zl.length = 32 ∧ ∀ w : World, (zeroValue 33).run Tryd.prog w = .ok (.agg (Lib.byteCells zl).toArray) w := ⟨List.replicate 32 0, rfl, fun w => by kernel_rfl⟩
theorem map_look (zl : List UInt8) (hz : ∀ w : World, (zeroValue 33).run Tryd.prog w = .ok (.agg (Lib.byteCells zl).toArray) w) {W : World} {m : Nat} {l : List ((Nat × Nat) × List UInt8)} (h : MapAt W m l) (hk : SmallKeys l) (hd : l.Pairwise (fun p q => p.1 ≠ q.1)) (b e : Nat) (hb : b ≤ 18446744073709551615) (he : e ≤ 18446744073709551615) :
    (Instr.lookup 58 (.map (some m)) (spanV b e) true).run Tryd.prog W = .ok (.tuple #[.agg (Lib.byteCells ((l.lookup (b, e)).getD zl)).toArray, .bool (l.lookup (b, e)).isSome]) W := by
  obtain ⟨n, hown⟩ := h
  obtain ⟨v, ps, hrun, hv⟩ := hown.look_ok (Keyed.of_law klaw) Tryd.underlying58 (hz W) (hR_mk zl) (keyOf_span b e hb he)
  obtain ⟨h1, h2⟩ := mapD_look l hk hd (b, e) ⟨hb, he⟩ zl
  rw [h2] at hv
  rw [hR_inv hv, h1] at hrun
  exact hrun
theorem scells_at : ∀ (l : List (Nat × Nat)) (i : Nat) (s : Nat × Nat), l[i]? = some s → (scells l)[i * 2]? = some (.int .u64 (s.1 : Int)) ∧ (scells l)[i * 2 + 1]? = some (.int .u64 (s.2 : Int))
  | [], i, s, h => by simp at h
  | x :: r, 0, s, h => by
    simp only [List.getElem?_cons_zero, Option.some.injEq] at h
    subst h
    exact ⟨rfl, rfl⟩
  | x :: r, i + 1, s, h => by
    have ih := scells_at r i s (by simpa using h)
    have e1 : scells (x :: r) = .int .u64 (x.1 : Int) :: .int .u64 (x.2 : Int) :: scells r := rfl
    rw [e1, show (i + 1) * 2 = i * 2 + 1 + 1 by omega]
    simp only [List.getElem?_cons_succ]
    exact ih
theorem hz_cells (l : List UInt8) : (Lib.byteCells l).toArray.size = l.length := by rw [List.size_toArray, Lib.byteCells_length]
set_option maxHeartbeats 1000000 in
set_option maxRecDepth 100000 in
theorem laid_any (sl : List (Nat × Nat)) (pr : List (List UInt8)) (u v : Value) (w : World) (hu : SpIn w u sl) (hv : HsIn w v pr) (hl : sl.length = pr.length) (h4 : sl.length ≤ 400) (hk : ∀ s ∈ sl, s.1 ≤ 400 ∧ s.2 ≤ 400) :
    Calls Tryd.prog 21 #[u, v] w fun e w' => e = .returned (.map (some w.heap.size)) ∧ MapAt w' w.heap.size (sl.zip pr) ∧ Below w.heap.size w w' := by
  obtain ⟨ao, cap, rfl, hr⟩ := hu
  obtain ⟨hpl, ao2, cap2, rfl, _, hr2⟩ := hv
  have hmm := @run_makeMap Tryd.prog
  have hmin : min (sl.length : Int) (pr.length : Int) = (sl.length : Int) := by omega
  have HR := Lib.hid hr
  have HR2 := Lib.hid hr2
  have HPL := Lib.hid hpl
  have HL := Lib.hid hl
  have HK := Lib.hid hk
  clear hr hr2 hpl hl hk
  go_enter Tryd.func21, Tryd.ntmps21
  go_wp2_with fail
  go_loopw [13] (fun vi wr => ∃ i : Nat, i ≤ sl.length ∧ vi = .int .i64 (i : Int) ∧ wr.ownsMap Tryd.prog 65 hR w.heap.size i (mapD ((sl.zip pr).take i)) ∧ Below w.heap.size w wr) (fun vi _ => sl.length - (intOf vi).toNat)
  case atStart => exact ⟨0, Nat.zero_le _, rfl, World.ownsMap_made _ _ _ _, (Below.refl _ _).alloc (Nat.le_refl _) _⟩
  case round =>
    obtain ⟨i, hin, rfl, hown, hbel⟩ := hrel
    rename World => wA
    by_cases hi : i < sl.length
    · have i1 : (i : Int) < (sl.length : Int) := by omega
      have i0 : (0 : Int) ≤ (i : Int) := by omega
      have i2 : (i : Int) < (pr.length : Int) := by have := HL.out; omega
      obtain ⟨s, hs⟩ : ∃ s, sl[i]? = some s := ⟨_, List.getElem?_eq_getElem hi⟩
      obtain ⟨p, hp⟩ : ∃ p, pr[i]? = some p := ⟨_, List.getElem?_eq_getElem (by have := HL.out; omega)⟩
      obtain ⟨g, rfl, hrow⟩ := HR.out (fun e => by rw [e] at hi; simp at hi)
      obtain ⟨g2, o2, rfl, hrow2⟩ := HR2.out (fun e => by rw [e] at hp; simp at hp)
      have hsl := scells_at sl i s hs
      have c0 : wA.cell? ⟨g, i * 2, none⟩ = some (.int .u64 (s.1 : Int)) := below_cell hbel (by have := hrow (i * 2) _ hsl.1; rwa [Nat.zero_add] at this)
      have c1 : wA.cell? ⟨g, i * 2 + 1, none⟩ = some (.int .u64 (s.2 : Int)) := below_cell hbel (by have := hrow (i * 2 + 1) _ hsl.2; rwa [Nat.zero_add] at this)
      have HPR := Lib.hid (range_below hbel (HsIn.at HPL.out hrow2 hp))
      have HP32 := Lib.hid (HPL.out p (List.mem_of_getElem? hp))
      have HOW := Lib.hid hown
      have HBL := Lib.hid hbel
      have HKS := Lib.hid (HK.out s (List.mem_of_getElem? hs))
      have HTK := Lib.hid (show (sl.zip pr).take (i + 1) = (sl.zip pr).take i ++ [(s, p)] by
        have hz : (sl.zip pr)[i]? = some (s, p) := List.getElem?_zip_eq_some.2 ⟨hs, hp⟩
        rw [List.take_add_one, hz]
        rfl)
      clear hrow hrow2 hsl hown hbel hs hp
      go_wp2_with fail
      have l1 : g < wA.heap.size := lt_of_cell c0
      refine wp_region_kept_tail 9 (by kernel_rfl) (by kernel_rfl) ?_
      simp only [List.take_succ_cons, List.take_zero, List.drop_succ_cons, List.drop_zero]
      iterate 8 go_big_quiet_step (fail)
      refine wpQuiet_hashLoad (by rfl) (.tmp 23) (by rfl) g2 (o2 + i * 32) (by rfl) p HP32.out HPR.out ?_
      simp only [Act.put, List.setIfInBounds_toArray, List.set_cons_zero, List.set_cons_succ]
      refine wpQuiet_nil ?_
      intro x
      have HOX := Lib.hid (HOW.out.kept (below_grown (row := none) x.below) (by simp))
      have HBX := Lib.hid (HBL.out.trans (x.below.mono HBL.out.size))
      generalize x.w = wX at *
      have HKO := Lib.hid (keyOf_span s.1 s.2 (by have := HKS.out; omega) (by have := HKS.out; omega))
      go_wp2_with (at_mapUpdate; refine wpList_mapUpdate_own _ rfl _ _ _ 58 rfl 65 33 (Keyed.of_law klaw) Tryd.underlying58 hR w.heap.size i _ rfl HOX.out (by unfold maxLen; omega) _ _ (skey s.1 s.2) rfl rfl HKO.out (.lit (.string p)) [] (hR_mk p) ?_)
      intro w1 hown1 hgrow1
      have HO1 := Lib.hid (show w1.ownsMap Tryd.prog 65 hR w.heap.size (i + 1) (mapD ((sl.zip pr).take (i + 1))) by rw [HTK.out, mapD_snoc]; exact hown1)
      have HB1 := Lib.hid (HBX.out.grown hgrow1 HBX.out.size (fun j hj => by cases hj; exact Nat.le_refl _))
      clear hown1 hgrow1
      go_wp2_with fail
      go_roundw
      case rel => first | exact ⟨i + 1, hi, by go_num, HO1.out, HB1.out⟩ | exact ⟨_, _, _, _, _, _, _, _, _, _, _, _, _, _, ⟨i + 1, hi, by go_num, HO1.out, HB1.out⟩, rfl⟩
      case measure => simp [intOf]; omega
    · obtain rfl : i = sl.length := by omega
      have i1 : ¬ (sl.length : Int) < (sl.length : Int) := by omega
      have HM2 := Lib.hid (show MapAt wA w.heap.size (sl.zip pr) from ⟨_, by have h := hown; rwa [List.take_of_length_le (by rw [List.length_zip]; omega)] at h⟩)
      have HBL := Lib.hid hbel
      clear hown hbel
      go_wp2_with fail
      go_ret
      exact ⟨rfl, HM2.out, HBL.out⟩
end Go.Proofs.YthcccgbodceeeaaDoor
