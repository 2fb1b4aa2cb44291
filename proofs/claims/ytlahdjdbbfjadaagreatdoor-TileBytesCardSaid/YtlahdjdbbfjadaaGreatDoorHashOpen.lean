/-
  A list of hashes among the arguments, opened.
-/
import Derived.Test.YtlahdjdbbfjadaaGreatDoorHashes
import Derived.Test.YtlahdjdbbfjadaaGreatDoorTileOpen
import Derived.Deep.Slices
import Derived.Deep.MidRow
namespace Go.Proofs.YtlahdjdbbfjadaaGreatDoor
open Go.RowKit Go.ChangeShapes Go.WideShapes Go.ChangeAt Go.Deep

theorem hashCellsT : Tryz.prog.cellsOf 70 = 32 := by kernel_rfl
theorem hashBytesT : Tryz.prog.bytesOf 70 = 32 := by kernel_rfl
def unByteT : Value → UInt8
  | .int _ n => UInt8.ofNat n.toNat
  | _ => 0
theorem bytes_ofT (A : List Value) (h : ∀ j, j < A.length → ∃ n : Int, A[j]? = some (.int .u8 n) ∧ 0 ≤ n ∧ n ≤ 255) : A = Lib.byteCells (A.map unByteT) := by
  refine List.ext_getElem? fun j => ?_
  by_cases hj : j < A.length
  · obtain ⟨n, e, h0, h1⟩ := h j hj
    have e2 : (UInt8.ofNat n.toNat).toNat = n.toNat := by
      rw [UInt8.toNat_ofNat']
      omega
    simp only [Lib.byteCells, List.getElem?_map, e, Option.map_some, unByteT, e2]
    congr 2
    omega
  · rw [List.getElem?_eq_none (by omega), List.getElem?_eq_none (by simp [Lib.byteCells]; omega)]
theorem one_atT {α : Type} {l : List α} {j : Nat} {x : α} (h : (l.drop j).take 1 = [x]) : l[j]? = some x := by
  have h2 : ((l.drop j).take 1)[0]? = some x := by rw [h]; rfl
  rw [List.getElem?_take] at h2
  simpa [List.getElem?_drop] using h2
theorem flat_len (R : Nat → List UInt8) : ∀ n, (∀ i, i < n → (R i).length = 32) → ((List.range n).flatMap R).length = 32 * n
  | 0, _ => rfl
  | n + 1, h => by
    rw [List.range_succ, List.flatMap_append, List.length_append, flat_len R n fun i hi => h i (by omega)]
    simp [h n (by omega)]
    omega
theorem flat_get (R : Nat → List UInt8) (i j : Nat) (hj : j < 32) : ∀ n, (∀ i, i < n → (R i).length = 32) → i < n → ((List.range n).flatMap R)[32 * i + j]? = (R i)[j]?
  | 0, _, hi => by omega
  | n + 1, h, hi => by
    have hl := flat_len R n fun i hi => h i (by omega)
    rw [List.range_succ, List.flatMap_append]
    by_cases e : i = n
    · subst e
      rw [List.getElem?_append_right (by omega), hl]
      simp
    · rw [List.getElem?_append_left (by omega)]
      exact flat_get R i j hj n (fun i hi => h i (by omega)) (by omega)

/-- A slice has room for what it holds. -/
def Roomy (v : Value) : Prop := ∀ ao n cap, v = .slice ao n cap → n ≤ cap
theorem Roomy.mk {ao : Option Addr} {n cap : Nat} (h : n ≤ cap) : Roomy (.slice ao n cap) := fun _ _ _ e => by
  injection e with _ e1 e2
  omega

section
variable {H : Type} {enc : TypeId × Value → H} {W : World} {sp : Nat → Bool} {held : Bool}
theorem open_hashT {fuel : Nat} {cs : List Value} {x : DataW H × List MemPlace} (h : DataW.trod enc Tryz.prog W 0 sp held fuel 70 cs = some x) : ∃ r : List UInt8, r.length = 32 ∧ cs = Lib.byteCells r := by
  obtain ⟨e, hu, rfl⟩ := hashDesc
  obtain ⟨xs, m, _, _, hlen, hl, hel⟩ := DataW.trod_array hu h
  have h32 : cs.length = 32 := by rw [hlen]; exact hashCellsT
  refine ⟨cs.map unByteT, by rw [List.length_map, h32], bytes_ofT cs fun j hj => ?_⟩
  have h1 := hel j (by omega)
  obtain ⟨y, hy⟩ : ∃ y, xs[j]? = some y := ⟨_, List.getElem?_eq_getElem (by omega)⟩
  rw [u8CellsT, Nat.mul_one, hy] at h1
  obtain ⟨n, e1, _, hw⟩ := DataW.trod_int Tryz.underlying5 h1
  have := (Lit.wf_int_iff .u8 n).1 hw
  exact ⟨n, one_atT e1, this.1, this.2⟩
theorem spot_none {W : World} {a : Addr} {j : Nat} {v : Value} (h : W.cell? (a.add j) = some v) (hj : j = 0) : a.spot = none := by
  subst hj
  obtain ⟨b, o, spot⟩ := a
  cases spot with
  | none => rfl
  | some k =>
    simp only [Addr.add, if_pos, World.cell?] at h
    split at h
    · simp at h
    · cases h
set_option maxRecDepth 100000 in
theorem open_hashes {b0 : Nat} {v : Value} {d : DataW H} {p : List MemPlace} (hv : Value.okWide Tryz.prog W .any b0 22 v) (h : DataW.Trod enc Tryz.prog W 0 sp held 22 v d p)
    (hz : (d.weights Tryz.prog 22).all (· ≤ reachBytes) = true) : ∃ n l, HashIn W v n l ∧ Roomy v ∧ n ≤ 140737488351232 := by
  obtain ⟨ao, len, cap, rfl⟩ := okWide_slice Tryz.underlying22 hv
  obtain ⟨fuel, hf⟩ := h
  rcases open_slice Tryz.underlying22 hf with ⟨h0, _⟩ | ⟨a, len', cap', m, n, D, Pl, h0, hb, hl, hm, hmm, hx, hel⟩
  · have e : Value.slice ao len cap = .slice none 0 0 := by simpa [Value.cells] using h0
    rw [e]
    exact ⟨0, [], ⟨rfl, none, 0, rfl, fun h => by omega⟩, Roomy.mk (Nat.le_refl _), by omega⟩
  · have e : Value.slice ao len cap = .slice (some a) len' cap' := by simpa [Value.cells] using h0
    rw [e]
    have hlm : len' ≤ m := by rw [hmm]; split <;> omega
    have hR' : ∀ i, i < m → ∃ r : List UInt8, r.length = 32 ∧ W.cells? 0 (a.add (i * 32)) 32 = some (Lib.byteCells r) := fun i hi => by
      obtain ⟨cs', h1, h2⟩ := hel i hi
      rw [hashCellsT] at h1
      obtain ⟨r, hr, rfl⟩ := open_hashT h2
      exact ⟨r, hr, h1⟩
    obtain ⟨R, hR⟩ := choose_lt hR'
    have hRl : ∀ i, i < len' → (R i).length = 32 := fun i hi => (hR i (by omega)).1
    refine ⟨len', (List.range len').flatMap R, ⟨flat_len R len' hRl, some a, cap', rfl, fun h => ?_⟩, Roomy.mk hl, ?_⟩
    · have hcell : ∀ i j, i < len' → j < 32 → W.cell? ((a.add (i * 32)).add j) = (Lib.byteCells (R i))[j]? := fun i j hi hj => (World.cells?_some (hR i (by omega)).2).2.2 j hj
      have h00 : ∃ u, W.cell? ((a.add (0 * 32)).add 0) = some u := by
        rw [hcell 0 0 h (by omega)]
        exact ⟨_, List.getElem?_eq_getElem (by rw [Lib.byteCells_length, hRl 0 h]; omega)⟩
      obtain ⟨u, hu⟩ := h00
      have ha0 : a.add (0 * 32) = a := by unfold Addr.add; simp
      rw [ha0] at hu
      have hs := spot_none hu rfl
      obtain ⟨g, o, s⟩ := a
      obtain rfl : s = none := hs
      refine ⟨g, o, rfl, fun q v hq => ?_⟩
      have hql : q < 32 * len' := by
        have := (List.getElem?_eq_some_iff.1 hq).1
        rwa [Lib.byteCells_length, flat_len R len' hRl] at this
      have e2 : q = 32 * (q / 32) + q % 32 := by omega
      have hc := hcell (q / 32) (q % 32) (by omega) (by omega)
      rw [Addr.add_mid, Addr.add_mid] at hc
      rw [show o + q = o + q / 32 * 32 + q % 32 by omega, hc]
      unfold Lib.byteCells at hq ⊢
      rw [List.getElem?_map] at hq ⊢
      rw [← flat_get R (q / 32) (q % 32) (by omega) len' hRl (by omega), ← e2]
      exact hq
    · simp only [Prod.mk.injEq] at hx
      rw [hx.1] at hz
      simp only [DataW.weights, Tryz.underlying22, List.all_cons, Bool.and_eq_true, List.length_map, List.length_range, hashBytesT, reachBytes] at hz
      have := of_decide_eq_true hz.1
      omega
end
end Go.Proofs.YtlahdjdbbfjadaaGreatDoor
