/-
  A checkpoint among the arguments, opened.
-/
import Derived.Test.YtjmgkallgflcdaaGreatDoorCkParse
import Derived.Test.YtjmgkallgflcdaaGreatDoorSameT
import Derived.Lib.SmallJoins
import Derived.SliceStrings
import Derived.OpenShut
import Derived.Carry
import Derived.DataShut
namespace Go.Proofs.YtjmgkallgflcdaaGreatDoor
open Go.RowKit Go.ChangeShapes Go.WideShapes Go.ChangeAt

theorem laidOut : laidOutB Tryz.prog = true := by kernel_rfl
theorem ckCells : Tryz.prog.cellsOf 27 = 35 := by kernel_rfl
theorem hashCells : Tryz.prog.cellsOf 24 = 32 := by kernel_rfl
theorem strCells : Tryz.prog.cellsOf 9 = 1 := by kernel_rfl
theorem u64Cells : Tryz.prog.cellsOf 22 = 1 := by kernel_rfl
theorem strsCells : Tryz.prog.cellsOf 25 = 1 := by kernel_rfl
theorem u8Cells : Tryz.prog.cellsOf 5 = 1 := by kernel_rfl
theorem strBytes : Tryz.prog.bytesOf 9 = 16 := by kernel_rfl
theorem ckUnder : ∃ f0 f1 f2 f3 : Field, Tryz.prog.underlying 27 = some (.struct #[f0, f1, f2, f3]) ∧ (f0.type = 9 ∧ f0.offset = 0) ∧ (f1.type = 22 ∧ f1.offset = 1) ∧ (f2.type = 24 ∧ f2.offset = 2) ∧ (f3.type = 25 ∧ f3.offset = 34) :=
  ⟨_, _, _, _, Tryz.underlying27, ⟨rfl, rfl⟩, ⟨rfl, rfl⟩, ⟨rfl, rfl⟩, ⟨rfl, rfl⟩⟩
theorem hashUnder : ∃ e, Tryz.prog.underlying 24 = some (.array 32 e) ∧ e = 5 := ⟨_, by kernel_rfl, rfl⟩
theorem weights_strs {H : Type} (P : Program) (e : TypeId) : ∀ ss : List ByteArray, DataW.weightsAll P e (strs (H := H) ss) = ss.map fun s => s.data.toList.length
  | [] => rfl
  | s :: r => by
    show DataW.weights P e (.lit (.string s.data.toList)) ++ DataW.weightsAll P e (strs r) = _
    rw [weights_strs P e r]
    rfl
theorem list_parts {α : Type} (l : List α) (a b c : α) (h : l.length = 35) (h0 : (l.drop 0).take 1 = [a]) (h1 : (l.drop 1).take 1 = [b]) (h3 : (l.drop 34).take 1 = [c]) : l = a :: b :: ((l.drop 2).take 32 ++ [c]) := by
  have e0 : l = l.take 1 ++ l.drop 1 := (List.take_append_drop 1 l).symm
  have e1 : l.drop 1 = (l.drop 1).take 1 ++ (l.drop 1).drop 1 := (List.take_append_drop 1 _).symm
  have e2 : l.drop 2 = (l.drop 2).take 32 ++ (l.drop 2).drop 32 := (List.take_append_drop 32 _).symm
  have e3 : (l.drop 34).take 1 = l.drop 34 := List.take_of_length_le (by rw [List.length_drop, h]; omega)
  have d1 : (l.drop 1).drop 1 = l.drop 2 := by rw [List.drop_drop]
  have d2 : (l.drop 2).drop 32 = l.drop 34 := by rw [List.drop_drop]
  rw [List.drop_zero] at h0
  rw [h0, e1, h1, d1, e2, d2, ← e3, h3] at e0
  exact e0
def unByte : Value → UInt8
  | .int _ n => UInt8.ofNat n.toNat
  | _ => 0
theorem bytes_of (A : List Value) (h : ∀ j, j < A.length → ∃ n : Int, A[j]? = some (.int .u8 n) ∧ 0 ≤ n ∧ n ≤ 255) : A = Lib.byteCells (A.map unByte) := by
  refine List.ext_getElem? fun j => ?_
  by_cases hj : j < A.length
  · obtain ⟨n, e, h0, h1⟩ := h j hj
    have e2 : (UInt8.ofNat n.toNat).toNat = n.toNat := by
      rw [UInt8.toNat_ofNat']
      omega
    simp only [Lib.byteCells, List.getElem?_map, e, Option.map_some, unByte, e2]
    congr 2
    omega
  · rw [List.getElem?_eq_none (by omega), List.getElem?_eq_none (by simp [Lib.byteCells]; omega)]
theorem one_at {α : Type} {l : List α} {j : Nat} {x : α} (h : (l.drop j).take 1 = [x]) : l[j]? = some x := by
  have h2 : ((l.drop j).take 1)[0]? = some x := by rw [h]; rfl
  rw [List.getElem?_take] at h2
  simpa [List.getElem?_drop] using h2

/-- What a checkpoint among the arguments is. -/
def CkArg (W : World) (o : List UInt8) (z : Nat) (r : List UInt8) (ev : Value) (L : List (List UInt8)) : Prop :=
  r.length = 32 ∧ z ≤ 18446744073709551615 ∧ TextsIn W ev L ∧ o.length ≤ 9223372036854775807 ∧ L.length ≤ 140737488351232 ∧ ∀ x ∈ L, x.length ≤ 140737488351232

section
variable {H : Type} {enc : TypeId × Value → H} {W : World} {sp : Nat → Bool} {held : Bool}
theorem open_hash {fuel : Nat} {cs : List Value} {x : DataW H × List MemPlace} (h : DataW.trod enc Tryz.prog W 0 sp held fuel 24 cs = some x) : ∃ r : List UInt8, r.length = 32 ∧ cs = Lib.byteCells r := by
  obtain ⟨e, hu, rfl⟩ := hashUnder
  obtain ⟨xs, m, _, _, hlen, hl, hel⟩ := DataW.trod_array hu h
  have h32 : cs.length = 32 := by rw [hlen]; exact hashCells
  refine ⟨cs.map unByte, by rw [List.length_map, h32], bytes_of cs fun j hj => ?_⟩
  have h1 := hel j (by omega)
  obtain ⟨y, hy⟩ : ∃ y, xs[j]? = some y := ⟨_, List.getElem?_eq_getElem (by omega)⟩
  rw [u8Cells, Nat.mul_one, hy] at h1
  obtain ⟨n, e1, _, hw⟩ := DataW.trod_int Tryz.underlying5 h1
  have := (Lit.wf_int_iff .u8 n).1 hw
  exact ⟨n, one_at e1, this.1, this.2⟩
theorem open_texts {fuel : Nat} {cs : List Value} {x : DataW H × List MemPlace} (h : DataW.trod enc Tryz.prog W 0 sp held fuel 25 cs = some x) (hz : (x.1.weights Tryz.prog 25).all (· ≤ reachBytes) = true) :
    ∃ (ev : Value) (L : List (List UInt8)), cs = [ev] ∧ TextsIn W ev L ∧ L.length ≤ 140737488351232 ∧ ∀ x ∈ L, x.length ≤ 140737488351232 := by
  rcases open_strings Tryz.underlying25 Tryz.underlying9 strCells h with ⟨rfl, rfl⟩ | ⟨a, len, cap, ss, rfl, _, hl, hm, hlen, rfl, hcell, hsz⟩
  · exact ⟨_, [], rfl, ⟨none, 0, rfl, fun h => absurd rfl h⟩, by simp, by simp⟩
  · simp only [DataW.weights, Tryz.underlying25, List.all_cons, List.all_append, Bool.and_eq_true, weights_strs, strBytes] at hz
    obtain ⟨hz1, hz2, _⟩ := hz
    have hz1 := of_decide_eq_true hz1
    have hss : len ≤ ss.length := by
      rw [hlen]
      split <;> omega
    have hL : (ss.take len).length = len := by rw [List.length_take]; omega
    simp only [strs, List.length_map, hL, reachBytes] at hz1
    refine ⟨_, (ss.take len).map (fun s => s.data.toList), rfl, ⟨some a, cap, by rw [List.length_map, hL], fun hne => ?_⟩, ?_, ?_⟩
    · have hpos : 0 < len := by
        rcases Nat.eq_zero_or_pos len with h0 | h0
        · exact absurd (List.eq_nil_of_length_eq_zero (by rw [List.length_map, hL, h0])) hne
        · exact h0
      obtain ⟨b, off, spot⟩ := a
      have hs : spot = none := by
        have h0 := hcell 0 (by omega)
        cases spot with
        | none => rfl
        | some k =>
          simp only [Addr.add, if_pos, World.cell?] at h0
          split at h0
          · simp at h0
          · cases h0
      subst hs
      refine ⟨b, off, rfl, fun k x hx => ?_⟩
      have hk : k < len := by
        have := (List.getElem?_eq_some_iff.1 hx).1
        rwa [List.length_map, hL] at this
      have hc := hcell k (by omega)
      have ha : (⟨b, off, none⟩ : Addr).add k = ⟨b, off + k, none⟩ := by
        unfold Addr.add
        by_cases h0 : k = 0
        · rw [if_pos h0, h0]; rfl
        · rw [if_neg h0]
      rw [ha] at hc
      rw [hc]
      rw [List.getElem?_map, List.getElem?_take, if_pos hk, List.getElem?_eq_getElem (by omega)] at hx
      obtain rfl := Option.some.inj hx
      have hg : ss.getD k ByteArray.empty = ss[k] := by
        rw [List.getD_eq_getElem?_getD, List.getElem?_eq_getElem (by omega)]
        rfl
      rw [hg, ba_back]
    · rw [List.length_map, hL]
      omega
    · intro x hx
      obtain ⟨s, hs, rfl⟩ := List.mem_map.1 hx
      have := List.all_eq_true.1 hz2 s.data.toList.length (List.mem_map.2 ⟨s, hs, rfl⟩)
      exact of_decide_eq_true this
set_option maxRecDepth 100000 in
theorem open_ck {b0 : Nat} {v : Value} {d : DataW H} {p : List MemPlace} (hv : Value.okWide Tryz.prog W .any b0 27 v) (h : DataW.Trod enc Tryz.prog W 0 sp held 27 v d p)
    (hz : (d.weights Tryz.prog 27).all (· ≤ reachBytes) = true) :
    ∃ (o : List UInt8) (z : Nat) (r : List UInt8) (ev : Value) (L : List (List UInt8)), v = .agg (ckList ⟨o.toArray⟩ (z : Int) (Lib.byteCells r) ev).toArray ∧ CkArg W o z r ev L := by
  obtain ⟨f0, f1, f2, f3, hu, ⟨t0, o0⟩, ⟨t1, o1⟩, ⟨t2, o2⟩, ⟨t3, o3⟩⟩ := ckUnder
  obtain ⟨cs, rfl, hsz⟩ := okWide_struct hu hv
  rw [ckCells] at hsz
  obtain ⟨fuel, hf⟩ := h
  obtain ⟨y0, y1, y2, y3, n, hx, hl, h0, h1, h2, h3⟩ := Joins.trod_struct4 hu hf
  rw [t0, o0, strCells] at h0
  rw [t1, o1, u64Cells] at h1
  rw [t2, o2, hashCells] at h2
  rw [t3, o3, strsCells] at h3
  simp only [Prod.mk.injEq] at hx
  obtain ⟨rfl, rfl⟩ := hx
  simp only [DataW.weights, hu, DataW.weightsEach, List.map_cons, List.map_nil, List.append_nil, List.all_append, Bool.and_eq_true, t3] at hz
  obtain ⟨s, e0, _, hs⟩ := DataW.trod_string Tryz.underlying9 h0
  obtain ⟨z, e1, _, hw⟩ := DataW.trod_int Tryz.underlying22 h1
  obtain ⟨r, hr, e2⟩ := open_hash h2
  obtain ⟨ev, L, e3, hT, hL, hLe⟩ := open_texts h3 hz.2.2.2
  have hb := (Lit.wf_int_iff .u64 z).1 hw
  have hb0 : 0 ≤ z := hb.1
  have hb1 : z ≤ 18446744073709551615 := hb.2
  have hcs := list_parts cs.toList _ _ _ (by rw [Array.length_toList, hsz]) e0 e1 e3
  refine ⟨s.data.toList, z.toNat, r, ev, L, ?_, hr, by omega, hT, ?_, hL, hLe⟩
  · have e2' : (cs.toList.drop 2).take 32 = Lib.byteCells r := e2
    rw [e2'] at hcs
    have ez : ((z.toNat : Nat) : Int) = z := by omega
    rw [ba_back, ez]
    unfold ckList
    rw [← hcs]
  · rw [size_list]
    exact hs
end
end Go.Proofs.YtjmgkallgflcdaaGreatDoor
