/-
  NoteKnows' argument, opened.
-/
import Derived.Test.YticlgcfodlcpcaaGreatDoorNKnowsP
import Derived.Test.YticlgcfodlcpcaaGreatDoorTileOpen
namespace Go.Proofs.YticlgcfodlcpcaaGreatDoor
open Go.RowKit Go.ChangeShapes Go.WideShapes Go.ChangeAt

theorem hashCellsN : Tryz.prog.cellsOf 23 = 32 := by kernel_rfl
theorem snCellsN : Tryz.prog.cellsOf 60 = 34 := by kernel_rfl
theorem kwCellsN : Tryz.prog.cellsOf 71 = 69 := by kernel_rfl
theorem u8CellsN : Tryz.prog.cellsOf 5 = 1 := by kernel_rfl
theorem intCellsN : Tryz.prog.cellsOf 3 = 1 := by kernel_rfl
theorem strCellsN : Tryz.prog.cellsOf 9 = 1 := by kernel_rfl
theorem boolCellsN : Tryz.prog.cellsOf 4 = 1 := by kernel_rfl
theorem hashDescN : ∃ e, Tryz.prog.underlying 23 = some (.array 32 e) ∧ e = 5 := ⟨_, Tryz.underlying23, rfl⟩
theorem snUnder : ∃ f0 f1 f2 : Field, Tryz.prog.underlying 60 = some (.struct #[f0, f1, f2]) ∧ (f0.type = 9 ∧ f0.offset = 0) ∧ (f1.type = 23 ∧ f1.offset = 1) ∧ (f2.type = 5 ∧ f2.offset = 33) :=
  ⟨_, _, _, Tryz.underlying60, ⟨rfl, rfl⟩, ⟨rfl, rfl⟩, ⟨rfl, rfl⟩⟩
theorem kwUnder : ∃ f0 f1 f2 f3 f4 : Field, Tryz.prog.underlying 71 = some (.struct #[f0, f1, f2, f3, f4]) ∧ (f0.type = 9 ∧ f0.offset = 0) ∧ (f1.type = 60 ∧ f1.offset = 1) ∧ (f2.type = 23 ∧ f2.offset = 35) ∧ (f3.type = 3 ∧ f3.offset = 67) ∧ (f4.type = 4 ∧ f4.offset = 68) :=
  ⟨_, _, _, _, _, Tryz.underlying71, ⟨rfl, rfl⟩, ⟨rfl, rfl⟩, ⟨rfl, rfl⟩, ⟨rfl, rfl⟩, ⟨rfl, rfl⟩⟩
def unByteN : Value → UInt8
  | .int _ n => UInt8.ofNat n.toNat
  | _ => 0
theorem bytes_ofN (A : List Value) (h : ∀ j, j < A.length → ∃ n : Int, A[j]? = some (.int .u8 n) ∧ 0 ≤ n ∧ n ≤ 255) : A = Lib.byteCells (A.map unByteN) := by
  refine List.ext_getElem? fun j => ?_
  by_cases hj : j < A.length
  · obtain ⟨n, e, h0, h1⟩ := h j hj
    have e2 : (UInt8.ofNat n.toNat).toNat = n.toNat := by
      rw [UInt8.toNat_ofNat']
      omega
    simp only [Lib.byteCells, List.getElem?_map, e, Option.map_some, unByteN, e2]
    congr 2
    omega
  · rw [List.getElem?_eq_none (by omega), List.getElem?_eq_none (by simp [Lib.byteCells]; omega)]
theorem one_atN {α : Type} {l : List α} {j : Nat} {x : α} (h : (l.drop j).take 1 = [x]) : l[j]? = some x := by
  have h2 : ((l.drop j).take 1)[0]? = some x := by rw [h]; rfl
  rw [List.getElem?_take] at h2
  simpa [List.getElem?_drop] using h2
section
variable {H : Type} {enc : TypeId × Value → H} {W : World} {sp : Nat → Bool} {held : Bool}
theorem open_hashN {fuel : Nat} {cs : List Value} {x : DataW H × List MemPlace} (h : DataW.trod enc Tryz.prog W 0 sp held fuel 23 cs = some x) : ∃ r : List UInt8, r.length = 32 ∧ cs = Lib.byteCells r := by
  obtain ⟨e, hu, rfl⟩ := hashDescN
  obtain ⟨xs, m, _, _, hlen, hl, hel⟩ := DataW.trod_array hu h
  have h32 : cs.length = 32 := by rw [hlen]; exact hashCellsN
  refine ⟨cs.map unByteN, by rw [List.length_map, h32], bytes_ofN cs fun j hj => ?_⟩
  have h1 := hel j (by omega)
  obtain ⟨y, hy⟩ : ∃ y, xs[j]? = some y := ⟨_, List.getElem?_eq_getElem (by omega)⟩
  rw [u8CellsN, Nat.mul_one, hy] at h1
  obtain ⟨n, e1, _, hw⟩ := DataW.trod_int Tryz.underlying5 h1
  have := (Lit.wf_int_iff .u8 n).1 hw
  exact ⟨n, one_atN e1, this.1, this.2⟩
theorem glueN {α : Type} (l : List α) (a b : Nat) (A : List α) (h : (l.drop a).take b = A) : l.drop a = A ++ l.drop (a + b) := by
  have e := (List.take_append_drop b (l.drop a)).symm
  rw [List.drop_drop, h] at e
  exact e
theorem open_signerN {fuel : Nat} {cs : List Value} {x : DataW H × List MemPlace} (h : DataW.trod enc Tryz.prog W 0 sp held fuel 60 cs = some x) :
    ∃ (nm : ByteArray) (sec : List UInt8) (ht : Nat), sec.length = 32 ∧ ht ≤ 255 ∧ nm.size ≤ maxLen ∧ cs = snC nm.data.toList sec ht ∧ ∃ d1 d2, x.1 = .agg [.lit (.string nm.data.toList), d1, d2] := by
  obtain ⟨f0, f1, f2, hu, ⟨t0, o0⟩, ⟨t1, o1⟩, ⟨t2, o2⟩⟩ := snUnder
  obtain ⟨xs, n, _, hx, hl, hlen, hf⟩ := DataW.trod_struct hu h
  match xs, hlen with
  | [y0, y1, y2], _ =>
    have h0 := hf 0 f0 rfl
    have h1 := hf 1 f1 rfl
    have h2 := hf 2 f2 rfl
    rw [t0, o0, strCellsN] at h0
    rw [t1, o1, hashCellsN] at h1
    rw [t2, o2, u8CellsN] at h2
    obtain ⟨nm, e0, x0, hm⟩ := DataW.trod_string Tryz.underlying9 h0
    obtain ⟨sec, hs, e1⟩ := open_hashN h1
    obtain ⟨k, e2, _, hw⟩ := DataW.trod_int Tryz.underlying5 h2
    have hb := (Lit.wf_int_iff .u8 k).1 hw
    have hb0 : 0 ≤ k := hb.1
    have hb1 : k ≤ 255 := hb.2
    rw [snCellsN] at hl
    refine ⟨nm, sec, k.toNat, hs, by omega, hm, ?_, ?_⟩
    · have g0 := glueN cs 0 1 _ e0
      have g1 := glueN cs 1 32 _ e1
      have g2 := glueN cs 33 1 _ e2
      rw [List.drop_zero] at g0
      rw [g0, show 0 + 1 = 1 from rfl, g1, show 1 + 32 = 33 from rfl, g2, List.drop_of_length_le (show cs.length ≤ 33 + 1 by omega)]
      unfold snC
      rw [show ((k.toNat : Nat) : Int) = k by omega]
      rfl
    · refine ⟨y1.1, y2.1, ?_⟩
      have x0' : y0 = (.lit (.string nm.data.toList), []) := x0
      rw [hx, x0']
      rfl
set_option maxRecDepth 100000 in
theorem open_knowsN {b0 : Nat} {v : Value} {d : DataW H} {p : List MemPlace} (hv : Value.okWide Tryz.prog W .any b0 71 v) (h : DataW.Trod enc Tryz.prog W 0 sp held 71 v d p) :
    ∃ (s nm : ByteArray) (sec : List UInt8) (ht : Nat) (pub : List UInt8) (height : Int) (own : Bool), v = .agg (kwC s.data.toList nm.data.toList sec ht pub height own).toArray ∧ sec.length = 32 ∧ ht ≤ 255 ∧ pub.length = 32 ∧ idxOk height ∧ s.size ≤ maxLen ∧ nm.size ≤ maxLen ∧
      ∃ d1 d2 d3 d4 d5, d = .agg [.lit (.string s.data.toList), .agg [.lit (.string nm.data.toList), d1, d2], d3, d4, d5] := by
  obtain ⟨f0, f1, f2, f3, f4, hu, ⟨t0, o0⟩, ⟨t1, o1⟩, ⟨t2, o2⟩, ⟨t3, o3⟩, ⟨t4, o4⟩⟩ := kwUnder
  obtain ⟨cs, rfl, hsz⟩ := okWide_struct hu hv
  rw [kwCellsN] at hsz
  obtain ⟨fuel, hf⟩ := h
  obtain ⟨xs, n, _, hx, hl, hlen, hf⟩ := DataW.trod_struct hu hf
  match xs, hlen with
  | [y0, y1, y2, y3, y4], _ =>
    have h0 := hf 0 f0 rfl
    have h1 := hf 1 f1 rfl
    have h2 := hf 2 f2 rfl
    have h3 := hf 3 f3 rfl
    have h4 := hf 4 f4 rfl
    rw [t0, o0, strCellsN] at h0
    rw [t1, o1, snCellsN] at h1
    rw [t2, o2, hashCellsN] at h2
    rw [t3, o3, intCellsN] at h3
    rw [t4, o4, boolCellsN] at h4
    obtain ⟨s, e0, x0, hs⟩ := DataW.trod_string Tryz.underlying9 h0
    obtain ⟨nm, sec, ht, a1, a2, a3, e1, d1, d2, x1⟩ := open_signerN h1
    obtain ⟨pub, hp, e2⟩ := open_hashN h2
    obtain ⟨k, e3, _, hw⟩ := DataW.trod_int Tryz.underlying3 h3
    obtain ⟨b, e4, _⟩ := DataW.trod_bool Tryz.underlying4 h4
    have hb := (Lit.wf_int_iff .i64 k).1 hw
    refine ⟨s, nm, sec, ht, pub, k, b, ?_, a1, a2, hp, ⟨hb.1, hb.2⟩, hs, a3, d1, d2, y2.1, y3.1, y4.1, ?_⟩
    · have hl' : cs.toList.length = 69 := by rw [Array.length_toList, hsz]
      have g0 := glueN cs.toList 0 1 _ e0
      have g1 := glueN cs.toList 1 34 _ e1
      have g2 := glueN cs.toList 35 32 _ e2
      have g3 := glueN cs.toList 67 1 _ e3
      have g4 := glueN cs.toList 68 1 _ e4
      rw [List.drop_zero] at g0
      congr 1
      refine Array.toList_inj.1 ?_
      rw [g0, show 0 + 1 = 1 from rfl, g1, show 1 + 34 = 35 from rfl, g2, show 35 + 32 = 67 from rfl, g3, show 67 + 1 = 68 from rfl, g4, List.drop_of_length_le (show cs.toList.length ≤ 68 + 1 by omega)]
      unfold kwC
      simp
    · have x0' : y0 = (.lit (.string s.data.toList), []) := x0
      have x1' : y1.1 = .agg [.lit (.string nm.data.toList), d1, d2] := x1
      have hx1 := (Prod.mk.injEq ..).mp hx
      rw [hx1.1, x0']
      show DataW.agg [_, y1.1, y2.1, y3.1, y4.1] = _
      rw [x1']
theorem kw_weights {d1 d2 d3 d4 d5 : DataW H} {s nm : List UInt8} (hz : ((DataW.agg [.lit (.string s), .agg [.lit (.string nm), d1, d2], d3, d4, d5] : DataW H).weights Tryz.prog 71).all (· ≤ reachBytes) = true) : s.length ≤ 140737488351232 ∧ nm.length ≤ 140737488351232 := by
  obtain ⟨f0, f1, f2, f3, f4, hu, ⟨t0, _⟩, ⟨t1, _⟩, _⟩ := kwUnder
  obtain ⟨g0, g1, g2, hv, ⟨u0, _⟩, _⟩ := snUnder
  simp only [DataW.weights, hu, hv, DataW.weightsEach, List.map_cons, t0, t1, u0, List.cons_append, List.nil_append, List.all_cons, Bool.and_eq_true, reachBytes] at hz
  exact ⟨of_decide_eq_true hz.1, of_decide_eq_true hz.2.1⟩
end
end Go.Proofs.YticlgcfodlcpcaaGreatDoor
