/-
  The stretch among the arguments, opened.
-/
import Derived.Test.YthcccgbodceeeaaDoorFW
import Derived.Deep.Slices
import Derived.SliceStrings
import Derived.Lib.SmallJoins
import Derived.OpenShut
import Derived.Carry
import Derived.DataShut
namespace Go.Proofs.YthcccgbodceeeaaDoor
open Go.RowKit Go.ChangeShapes Go.WideShapes Go.ChangeAt Go.Deep

theorem sLaidOut : laidOutB Tryd.prog = true := by kernel_rfl
theorem sStrCells : Tryd.prog.cellsOf 9 = 1 := by kernel_rfl
theorem sU8Cells : Tryd.prog.cellsOf 5 = 1 := by kernel_rfl
theorem sU64Cells : Tryd.prog.cellsOf 23 = 1 := by kernel_rfl
theorem sHashCells : Tryd.prog.cellsOf 33 = 32 := by kernel_rfl
theorem sStrsCells : Tryd.prog.cellsOf 22 = 1 := by kernel_rfl
theorem sHashesCells : Tryd.prog.cellsOf 24 = 1 := by kernel_rfl
theorem sCells : Tryd.prog.cellsOf 26 = 5 := by kernel_rfl
theorem sStrBytes : Tryd.prog.bytesOf 9 = 16 := by kernel_rfl
theorem sUnder : ∃ f0 f1 f2 f3 f4 : Field, Tryd.prog.underlying 26 = some (.struct #[f0, f1, f2, f3, f4]) ∧ (f0.type = 22 ∧ f0.offset = 0) ∧ (f1.type = 23 ∧ f1.offset = 1) ∧ (f2.type = 23 ∧ f2.offset = 2) ∧ (f3.type = 22 ∧ f3.offset = 3) ∧ (f4.type = 24 ∧ f4.offset = 4) :=
  ⟨_, _, _, _, _, Tryd.underlying26, ⟨rfl, rfl⟩, ⟨rfl, rfl⟩, ⟨rfl, rfl⟩, ⟨rfl, rfl⟩, ⟨rfl, rfl⟩⟩
theorem sHashUnder : ∃ e, Tryd.prog.underlying 33 = some (.array 32 e) ∧ e = 5 := ⟨_, by kernel_rfl, rfl⟩
theorem sWeights {H : Type} (P : Program) (e : TypeId) : ∀ ss : List ByteArray, DataW.weightsAll P e (strs (H := H) ss) = ss.map fun s => s.data.toList.length
  | [] => rfl
  | s :: r => by
    show DataW.weights P e (.lit (.string s.data.toList)) ++ DataW.weightsAll P e (strs r) = _
    rw [sWeights P e r]
    rfl
def sUnByte : Value → UInt8
  | .int _ n => UInt8.ofNat n.toNat
  | _ => 0
theorem sBytes (A : List Value) (h : ∀ j, j < A.length → ∃ n : Int, A[j]? = some (.int .u8 n) ∧ 0 ≤ n ∧ n ≤ 255) : A = Lib.byteCells (A.map sUnByte) := by
  refine List.ext_getElem? fun j => ?_
  by_cases hj : j < A.length
  · obtain ⟨n, e, h0, h1⟩ := h j hj
    have e2 : (UInt8.ofNat n.toNat).toNat = n.toNat := by
      rw [UInt8.toNat_ofNat']
      omega
    simp only [Lib.byteCells, List.getElem?_map, e, Option.map_some, sUnByte, e2]
    congr 2
    omega
  · rw [List.getElem?_eq_none (by omega), List.getElem?_eq_none (by simp [Lib.byteCells]; omega)]
theorem sOne {α : Type} {l : List α} {j : Nat} {x : α} (h : (l.drop j).take 1 = [x]) : l[j]? = some x := by
  have h2 : ((l.drop j).take 1)[0]? = some x := by rw [h]; rfl
  rw [List.getElem?_take] at h2
  simpa [List.getElem?_drop] using h2
theorem sList5 {α : Type} (l : List α) (a b c d e : α) (h : l.length = 5) (h0 : (l.drop 0).take 1 = [a]) (h1 : (l.drop 1).take 1 = [b]) (h2 : (l.drop 2).take 1 = [c]) (h3 : (l.drop 3).take 1 = [d]) (h4 : (l.drop 4).take 1 = [e]) : l = [a, b, c, d, e] := by
  match l, h with
  | [x, y, z, u, v], _ => simp_all
theorem sSpot {W : World} {a : Addr} {j : Nat} {v : Value} (h : W.cell? (a.add j) = some v) (hj : j = 0) : a.spot = none := by
  subst hj
  obtain ⟨b, o, spot⟩ := a
  cases spot with
  | none => rfl
  | some k =>
    simp only [Addr.add, if_pos, World.cell?] at h
    split at h
    · simp at h
    · cases h
section
variable {H : Type} {enc : TypeId × Value → H} {W : World} {sp : Nat → Bool} {held : Bool}
theorem sHash {fuel : Nat} {cs : List Value} {x : DataW H × List MemPlace} (h : DataW.trod enc Tryd.prog W 0 sp held fuel 33 cs = some x) : ∃ r : List UInt8, r.length = 32 ∧ cs = Lib.byteCells r := by
  obtain ⟨e, hu, rfl⟩ := sHashUnder
  obtain ⟨xs, m, _, _, hlen, hl, hel⟩ := DataW.trod_array hu h
  have h32 : cs.length = 32 := by rw [hlen]; exact sHashCells
  refine ⟨cs.map sUnByte, by rw [List.length_map, h32], sBytes cs fun j hj => ?_⟩
  have h1 := hel j (by omega)
  obtain ⟨y, hy⟩ : ∃ y, xs[j]? = some y := ⟨_, List.getElem?_eq_getElem (by omega)⟩
  rw [sU8Cells, Nat.mul_one, hy] at h1
  obtain ⟨n, e1, _, hw⟩ := DataW.trod_int Tryd.underlying5 h1
  have := (Lit.wf_int_iff .u8 n).1 hw
  exact ⟨n, sOne e1, this.1, this.2⟩
set_option maxRecDepth 100000 in
theorem sHashes {fuel : Nat} {cs : List Value} {x : DataW H × List MemPlace} (hf : DataW.trod enc Tryd.prog W 0 sp held fuel 24 cs = some x) : ∃ (pv : Value) (pr : List (List UInt8)), cs = [pv] ∧ HsIn W pv pr := by
  rcases open_slice Tryd.underlying24 hf with ⟨rfl, _⟩ | ⟨a, len', cap', m, n, D, Pl, rfl, hb, hl, hm, hmm, hx, hel⟩
  · exact ⟨_, [], rfl, by simp, none, 0, rfl, Nat.le_refl _, fun h => absurd rfl h⟩
  · have hlm : len' ≤ m := by rw [hmm]; split <;> omega
    have hR' : ∀ i, i < m → ∃ r : List UInt8, r.length = 32 ∧ W.cells? 0 (a.add (i * 32)) 32 = some (Lib.byteCells r) := fun i hi => by
      obtain ⟨cs', h1, h2⟩ := hel i hi
      rw [sHashCells] at h1
      obtain ⟨r, hr, rfl⟩ := sHash h2
      exact ⟨r, hr, h1⟩
    obtain ⟨R, hR⟩ := choose_lt hR'
    have hRl : ∀ i, i < len' → (R i).length = 32 := fun i hi => (hR i (by omega)).1
    have hl32 : ∀ h ∈ (List.range len').map R, h.length = 32 := fun h hh => by
      obtain ⟨i, hi, rfl⟩ := List.mem_map.1 hh
      exact hRl i (List.mem_range.1 hi)
    refine ⟨_, (List.range len').map R, rfl, hl32, some a, cap', by rw [List.length_map, List.length_range], by rw [List.length_map, List.length_range]; exact hl, fun hne => ?_⟩
    have hpos : 0 < len' := by
      rcases Nat.eq_zero_or_pos len' with h0 | h0
      · exact absurd (by rw [h0]; rfl) hne
      · exact h0
    have hcell : ∀ i j, i < len' → j < 32 → W.cell? ((a.add (i * 32)).add j) = (Lib.byteCells (R i))[j]? := fun i j hi hj => (World.cells?_some (hR i (by omega)).2).2.2 j hj
    have h00 : ∃ u, W.cell? ((a.add (0 * 32)).add 0) = some u := by
      rw [hcell 0 0 hpos (by omega)]
      exact ⟨_, List.getElem?_eq_getElem (by rw [Lib.byteCells_length, hRl 0 hpos]; omega)⟩
    obtain ⟨u, hu⟩ := h00
    have ha0 : a.add (0 * 32) = a := by unfold Addr.add; simp
    rw [ha0] at hu
    have hs := sSpot hu rfl
    obtain ⟨g, o, s⟩ := a
    obtain rfl : s = none := hs
    refine ⟨g, o, rfl, fun q v hq => ?_⟩
    have hql : q < len' * 32 := by
      have := (List.getElem?_eq_some_iff.1 hq).1
      rwa [hcells_len _ hl32, List.length_map, List.length_range] at this
    have e2 : q / 32 * 32 + q % 32 = q := by omega
    have hi : ((List.range len').map R)[q / 32]? = some (R (q / 32)) := by
      rw [List.getElem?_map, List.getElem?_range (by omega)]
      rfl
    obtain ⟨v', hv'⟩ : ∃ v', (Lib.byteCells (R (q / 32)))[q % 32]? = some v' := ⟨_, List.getElem?_eq_getElem (by rw [Lib.byteCells_length, hRl _ (by omega)]; omega)⟩
    have h3 := hcells_at _ _ _ hl32 hi _ _ hv'
    rw [e2, hq] at h3
    obtain rfl := Option.some.inj h3
    have hc := hcell (q / 32) (q % 32) (by omega) (by omega)
    rw [Addr.add_mid, Addr.add_mid] at hc
    rw [show o + q = o + q / 32 * 32 + q % 32 by omega, hc]
    exact hv'
theorem sStrs {fuel : Nat} {cs : List Value} {x : DataW H × List MemPlace} (h : DataW.trod enc Tryd.prog W 0 sp held fuel 22 cs = some x) (hz : (x.1.weights Tryd.prog 22).all (· ≤ reachBytes) = true) :
    ∃ (ev : Value) (ss : List ByteArray), cs = [ev] ∧ StrsIn W ev ss ∧ ss.length ≤ 140737488351232 ∧ ∀ x ∈ ss, x.size ≤ 140737488351232 := by
  rcases open_strings Tryd.underlying22 Tryd.underlying9 sStrCells h with ⟨rfl, rfl⟩ | ⟨a, len, cap, ss, rfl, _, hl, hm, hlen, rfl, hcell, hsz⟩
  · exact ⟨_, [], rfl, ⟨none, 0, rfl, fun h => absurd rfl h⟩, by simp, by simp⟩
  · simp only [DataW.weights, Tryd.underlying22, List.all_cons, List.all_append, Bool.and_eq_true, sWeights, sStrBytes] at hz
    obtain ⟨hz1, hz2, _⟩ := hz
    have hz1 := of_decide_eq_true hz1
    have hss : len ≤ ss.length := by
      rw [hlen]
      split <;> omega
    have hL : (ss.take len).length = len := by rw [List.length_take]; omega
    simp only [strs, List.length_map, hL, reachBytes] at hz1
    refine ⟨_, ss.take len, rfl, ⟨some a, cap, by rw [hL], fun hne => ?_⟩, ?_, ?_⟩
    · have hpos : 0 < len := by
        rcases Nat.eq_zero_or_pos len with h0 | h0
        · exact absurd (List.eq_nil_of_length_eq_zero (by rw [hL, h0])) hne
        · exact h0
      have hs := sSpot (hcell 0 (by omega)) rfl
      obtain ⟨b, off, spot⟩ := a
      obtain rfl : spot = none := hs
      refine ⟨b, off, rfl, fun k x hx => ?_⟩
      have hk : k < len := by
        have := (List.getElem?_eq_some_iff.1 hx).1
        rwa [List.length_map, hL] at this
      have hc := hcell k (by omega)
      rw [Addr.add_mid] at hc
      rw [hc]
      rw [List.getElem?_map, List.getElem?_take, if_pos hk, List.getElem?_eq_getElem (by omega)] at hx
      obtain rfl := Option.some.inj hx
      rw [List.getD_eq_getElem?_getD, List.getElem?_eq_getElem (by omega)]
      rfl
    · rw [hL]
      omega
    · intro x hx
      have := List.all_eq_true.1 hz2 x.data.toList.length (List.mem_map.2 ⟨x, hx, rfl⟩)
      have h2 := of_decide_eq_true this
      exact h2
/-- What the argument is. -/
def StretchArg (W : World) (v : Value) : Prop :=
  ∃ (lv sv pv : Value) (B Z : Nat) (ss fs : List ByteArray) (pr : List (List UInt8)), v = .agg #[lv, .int .u64 (B : Int), .int .u64 (Z : Int), sv, pv] ∧ StrsIn W lv ss ∧ ss.length ≤ 9223372036854775807 ∧ StrsIn W sv fs ∧ (∀ s ∈ fs, s.size ≤ 140737488355327) ∧ HsIn W pv pr ∧ B ≤ 18446744073709551615 ∧ Z ≤ 18446744073709551615
set_option maxRecDepth 100000 in
theorem open_stretch {b0 : Nat} {v : Value} {d : DataW H} {p : List MemPlace} (hv : Value.okWide Tryd.prog W .any b0 26 v) (h : DataW.Trod enc Tryd.prog W 0 sp held 26 v d p)
    (hz : (d.weights Tryd.prog 26).all (· ≤ reachBytes) = true) : StretchArg W v := by
  obtain ⟨f0, f1, f2, f3, f4, hu, ⟨t0, o0⟩, ⟨t1, o1⟩, ⟨t2, o2⟩, ⟨t3, o3⟩, ⟨t4, o4⟩⟩ := sUnder
  obtain ⟨cs, rfl, hsz⟩ := okWide_struct hu hv
  rw [sCells] at hsz
  obtain ⟨fuel, hf⟩ := h
  obtain ⟨xs, n, _, hx, hl, hlen, hel⟩ := DataW.trod_struct hu hf
  match xs, hlen with
  | [y0, y1, y2, y3, y4], _ =>
    have h0 := hel 0 f0 rfl
    have h1 := hel 1 f1 rfl
    have h2 := hel 2 f2 rfl
    have h3 := hel 3 f3 rfl
    have h4 := hel 4 f4 rfl
    simp only [List.getElem?_cons_zero, List.getElem?_cons_succ] at h0 h1 h2 h3 h4
    rw [t0, o0, sStrsCells] at h0
    rw [t1, o1, sU64Cells] at h1
    rw [t2, o2, sU64Cells] at h2
    rw [t3, o3, sStrsCells] at h3
    rw [t4, o4, sHashesCells] at h4
    simp only [Prod.mk.injEq] at hx
    obtain ⟨rfl, rfl⟩ := hx
    simp only [DataW.weights, hu, DataW.weightsEach, List.map_cons, List.map_nil, List.append_nil, List.all_append, Bool.and_eq_true, t0, t3] at hz
    obtain ⟨lv, ss, e0, hs, hsl, _⟩ := sStrs h0 hz.1
    obtain ⟨B, e1, _, hw1⟩ := DataW.trod_int Tryd.underlying23 h1
    obtain ⟨Z, e2, _, hw2⟩ := DataW.trod_int Tryd.underlying23 h2
    obtain ⟨sv, fs, e3, hfs, _, hfz⟩ := sStrs h3 hz.2.2.2.1
    obtain ⟨pv, pr, e4, hp⟩ := sHashes h4
    have b1 : 0 ≤ B ∧ B ≤ 18446744073709551615 := (Lit.wf_int_iff .u64 B).1 hw1
    have b2 : 0 ≤ Z ∧ Z ≤ 18446744073709551615 := (Lit.wf_int_iff .u64 Z).1 hw2
    have hcl : cs.toList.length = 5 := by simpa using hsz
    have e := sList5 cs.toList lv (.int .u64 B) (.int .u64 Z) sv pv hcl e0 e1 e2 e3 e4
    refine ⟨lv, sv, pv, B.toNat, Z.toNat, ss, fs, pr, ?_, hs, by omega, hfs, fun s hs => by have := hfz s hs; omega, hp, by omega, by omega⟩
    rw [Int.toNat_of_nonneg b1.1, Int.toNat_of_nonneg b2.1]
    have e5 : cs = #[lv, .int .u64 B, .int .u64 Z, sv, pv] := Array.toList_inj.1 (by rw [e])
    rw [e5]
end
end Go.Proofs.YthcccgbodceeeaaDoor
