/-
  The log as a list: naive.New, Size, Append, Leaf and the law's own log by their contracts.
-/
import Derived.Test.YthcccgbodceeeaaDoorFRes
namespace Go.Proofs.YthcccgbodceeeaaDoor
open Go.RowKit

/-- A log under way: the leaves lie in memory of its own from block B on. -/
def LogOwn (B : Nat) (w : World) (b : Nat) (ls : List ByteArray) : Prop :=
  B ≤ b ∧ ∃ v, w.heap[b]? = some (.cells #[v, .bool true] 70 (0, 0)) ∧ w.ownsRow B 9 1 v ls.length (ls.map Value.string)
theorem LogOwn.at {B : Nat} {w : World} {b : Nat} {ls : List ByteArray} (h : LogOwn B w b ls) : LogAt w b ls := by
  obtain ⟨_, v, hb, hl, ho⟩ := h
  rcases ho with ⟨rfl, hn⟩ | ⟨g, cap, cur, rfl, _, hg, _, _, _, htk⟩
  · refine ⟨none, 0, (0, 0), by rw [hn]; exact hb, fun hne => ?_⟩
    exact absurd (List.length_eq_zero_iff.1 hn) hne
  · refine ⟨_, cap, (0, 0), hb, fun _ => ⟨g, rfl, fun j u hj => ?_⟩⟩
    rw [Nat.zero_add]
    refine cell_of hg j ?_
    rw [← htk, List.getElem?_take] at hj
    split at hj
    · simpa using hj
    · cases hj
set_option maxRecDepth 100000 in
theorem new_log (w : World) : Calls Tryd.prog 12 #[] w fun e w' => e = .returned (.pointer (some ⟨w.heap.size, 0, none⟩)) ∧ LogOwn w.heap.size w' w.heap.size [] ∧ Below w.heap.size w w' := by
  go_enter Tryd.func12, Tryd.ntmps12
  go_wp2_with fail
  go_ret
  exact ⟨rfl, ⟨Nat.le_refl _, _, heap_one w _, World.ownsRow_nil _ _ _ _⟩, below_one w _⟩
set_option maxRecDepth 100000 in
theorem size_log (b : Nat) (ls : List ByteArray) (w : World) (h : LogAt w b ls) (hl : ls.length ≤ 1048576) :
    Calls Tryd.prog 13 #[.pointer (some ⟨b, 0, none⟩)] w fun e w' => e = .returned (.int .u64 (ls.length : Int)) ∧ w = w' := by
  obtain ⟨ao, cap, fr, hb, _⟩ := h
  have c0 : w.cell? ⟨b, 0, none⟩ = some (.slice ao ls.length cap) := cell_of hb 0 rfl
  clear hb
  go_enter Tryd.func13, Tryd.ntmps13
  go_wp2_with fail
  go_ret
  exact ⟨rfl, rfl⟩
set_option maxRecDepth 100000 in
theorem leaf_log (S : Nat → Addr) (b : Nat) (ls : List ByteArray) (i : Nat) (w : World) (h : LogAt w b ls) (hl : ls.length ≤ 1048576) (hF : FW S w) :
    Calls Tryd.prog 18 #[.pointer (some ⟨b, 0, none⟩), .int .u64 (i : Int)] w fun e w' => e = .returned (.tuple (if i < ls.length then #[.string (ls.getD i ⟨#[]⟩), .nilIface] else #[.string ⟨#[]⟩, errV S 3])) ∧ Below w.heap.size w w' := by
  have HSZ := Lib.hid fun W (hW : LogAt W b ls) => size_log b ls W hW hl
  have HLA := Lib.hid h
  obtain ⟨ao, cap, fr, hb, hr⟩ := h
  have c0 : w.cell? ⟨b, 0, none⟩ = some (.slice ao ls.length cap) := cell_of hb 0 rfl
  have c1 : w.cell? ⟨b, 1, none⟩ = some (.bool true) := cell_of hb 1 rfl
  have g3 := hF.var 3 (by omega)
  simp only [errG, errV] at g3
  clear hb hF
  by_cases hlt : i < ls.length
  · rw [if_pos hlt]
    obtain ⟨g, rfl, hrow⟩ := hr (fun e => by rw [e] at hlt; simp at hlt)
    have ci : w.cell? ⟨g, i, none⟩ = some (.string (ls.getD i ⟨#[]⟩)) := by
      have := hrow i (.string (ls.getD i ⟨#[]⟩)) (by rw [List.getElem?_map, List.getElem?_eq_getElem hlt, List.getD_eq_getElem?_getD, List.getElem?_eq_getElem hlt]; rfl)
      rwa [Nat.zero_add] at this
    have n1 : ¬ (ls.length : Int) ≤ (i : Int) := by omega
    have n2 : (i : Int) < (ls.length : Int) := by omega
    clear hr hrow hlt
    generalize ls.getD i ⟨#[]⟩ = s at *
    go_enter Tryd.func18, Tryd.ntmps18
    go_wp2_with (go_at_call 13; refine (HSZ.out _ HLA.out).mono ?_; rintro e w' ⟨rfl, rfl⟩)
    go_ret2
    exact ⟨rfl, Below.refl _ _⟩
  · rw [if_neg hlt]
    have n1 : (ls.length : Int) ≤ (i : Int) := by omega
    simp only [errV]
    clear hr
    go_enter Tryd.func18, Tryd.ntmps18
    go_wp2_with (go_at_call 13; refine (HSZ.out _ HLA.out).mono ?_; rintro e w' ⟨rfl, rfl⟩)
    go_quiet (fail)
    go_wp2_with fail
    go_ret2
    exact ⟨rfl, below_drewN (Below.refl _ _) _⟩
theorem Tryd.infoStr : (Tryd.prog.info? 9).map (fun i => (i.zero, i.size, i.bytes)) = some (some (.string ⟨#[]⟩), 1, 16) := by kernel_rfl
def AppPost (B : Nat) (w : World) (b : Nat) (ls : List ByteArray) (s : ByteArray) (e : Ending) (w' : World) : Prop := (∃ r ev, e = .returned (.tuple #[r, ev]) ∧ (s.size ≤ 65536 → ev = .nilIface)) ∧ LogOwn B w' b (if s.size ≤ 65536 then ls ++ [s] else ls) ∧ Below B w w'
set_option maxHeartbeats 1000000 in
set_option maxRecDepth 100000 in
theorem append_log (S : Nat → Addr) (B b : Nat) (ls : List ByteArray) (s : ByteArray) (w : World) (h : LogOwn B w b ls) (hl : ls.length ≤ 400) (hF : FW S w) (hB : B ≤ w.heap.size) :
    Calls Tryd.prog 14 #[.pointer (some ⟨b, 0, none⟩), .string s] w fun e w' => AppPost B w b ls s e w' := by
  obtain ⟨hBb, v, hb, hown⟩ := h
  obtain ⟨i0, hi, hz0, hz1, hz2⟩ := info_parts Tryd.infoStr
  have g2 := hF.var 2 (by omega)
  simp only [errG, errV] at g2
  clear hF
  obtain ⟨ao, cap, rfl⟩ := owns_anyH hown
  have hne := ownBlock_neH hown hb (by decide)
  have c0 : w.cell? ⟨b, 0, none⟩ = some (.slice ao ls.length cap) := cell_of hb 0 rfl
  have c1 : w.cell? ⟨b, 1, none⟩ = some (.bool true) := cell_of hb 1 rfl
  by_cases hs : s.size ≤ 65536
  · have n1 : ¬ (65536 : Int) < (s.size : Int) := by omega
    have n2 : ¬ (1048576 : Int) ≤ (ls.length : Int) := by omega
    go_enter Tryd.func14, Tryd.ntmps14
    go_wp2_with (at_builtin; refine wpList_append_own _ rfl _ _ 22 rfl B 9 i0 (.string ⟨#[]⟩) 1 16 Tryd.underlying22 hi hz0 hz1 hz2 rfl (by decide) _ _ _ rfl (hown.alloc _) ⟨w.heap.size, 0, none⟩ 1 1 [.string s] rfl rfl (fun j u hj => by rw [Addr.add_mid, Nat.zero_add]; exact cell_of (heap_one w _) j (by simpa using hj)) ?c2 ?c3 ?c4 ?c5 ?_)
    case c2 => first | rfl | (intro u hu; simp at hu; subst hu; rfl)
    case c3 => unfold maxLen; omega
    case c4 => omega
    case c5 => first | omega | (simp; omega)
    intro v' w2 hown' hgrow _
    have hlt : b < (w.alloc (.cells #[.string s] 9)).heap.size := by have := lt_of_heap hb; simp; omega
    have hb2 : w2.heap[b]? = some (.cells #[.slice ao ls.length cap, .bool true] 70 (0, 0)) := by
      rw [hgrow.block b hlt (fun e => hne e.symm)]
      exact (heap_alloc_old _ _ (lt_of_heap hb)).trans hb
    have d0 : w2.cell? ⟨b, 0, none⟩ = some (.slice ao ls.length cap) := cell_of hb2 0 rfl
    have f0 : w2.frozen? ⟨b, 0, none⟩ = false := frozen_row hb2 0
    have hlt2 := lt_of_heap hb2
    obtain ⟨ao2, n2', cap2, rfl⟩ : ∃ ao n' cap, v' = .slice ao n' cap := by
      obtain ⟨x, y, h⟩ := owns_anyH hown'
      exact ⟨_, _, _, h⟩
    have hn2 : n2' = ls.length + 1 := by
      rcases hown'.2 with ⟨h, h2⟩ | ⟨_, _, _, h, _⟩
      · simp at h2
      · injection h
    subst hn2
    have hmap : ls.map Value.string ++ [.string s] = (ls ++ [s]).map Value.string := by simp
    rw [hmap] at hown'
    have HO := Lib.hid hown'
    have HB2 := Lib.hid hb2
    have HBL := Lib.hid (((Below.refl B w).alloc hB (.cells #[.string s] 9)).grown hgrow (by simp; omega) (fun j hj => (hown.lt j hj).1))
    have hne2 : (Value.slice ao2 (ls.length + 1) cap2).ownBlock ≠ some b := ownBlock_neH hown' hb2 (by decide)
    have HNE := Lib.hid hne2
    clear hown hown' hgrow hb hb2 hne hne2 hmap
    go_wp2_with fail
    go_ret2
    refine ⟨⟨_, _, rfl, fun _ => rfl⟩, ?_, HBL.out.setCell (p := ⟨b, 0, none⟩) hBb _⟩
    rw [if_pos hs]
    refine ⟨hBb, _, row_set0 HB2.out _, ?_⟩
    rw [List.length_append]
    exact ownsRow_setCell_other (a := ⟨b, 0, none⟩) HO.out HNE.out _
  · have n1 : (65536 : Int) < (s.size : Int) := by omega
    have HL := Lib.hid (show LogOwn B w b ls from ⟨hBb, _, hb, hown⟩)
    clear hown hb hne
    go_enter Tryd.func14, Tryd.ntmps14
    go_wp2_with fail
    go_quiet (fail)
    go_wp2_with fail
    go_ret2
    exact ⟨⟨_, _, rfl, fun h => absurd h hs⟩, by rw [if_neg hs]; exact HL.out, below_drewN (Below.refl B w) _⟩
def LogPost (w : World) (e : Ending) (w' : World) : Prop := ∃ (b : Nat) (ls : List ByteArray), e = .returned (.pointer (some ⟨b, 0, none⟩)) ∧ w.heap.size ≤ b ∧ LogAt w' b ls ∧ ls.length ≤ 400 ∧ (∀ s ∈ ls, s.size ≤ 65536) ∧ Below w.heap.size w w'
set_option maxHeartbeats 1000000 in
set_option maxRecDepth 100000 in
theorem log_any (S : Nat → Addr) (v : Value) (ss : List ByteArray) (w : World) (hF : FW S w) (hv : StrsIn w v ss) (hss : ss.length ≤ 9223372036854775807) :
    Calls Tryd.prog 4 #[v] w fun e w' => LogPost w e w' := by
  obtain ⟨ao, cap, rfl, hr⟩ := hv
  have HR := Lib.hid hr
  have HF := Lib.hid hF
  clear hr hF
  go_enter Tryd.func4, Tryd.ntmps4
  go_wp2_with (go_at_call 12; refine (new_log w).mono ?_)
  first
    | rintro e w1 rfl ho hb1
    | rintro e w1 ⟨rfl, ho, hb1⟩
  have HO := Lib.hid ho
  have HB1 := Lib.hid hb1
  clear ho hb1
  go_wp2_with fail
  go_loopw [4] (fun vi wr => ∃ (i : Nat) (ls : List ByteArray), i ≤ ss.length ∧ vi = .int .i64 (i : Int) ∧ ls.length ≤ 400 ∧ (∀ s ∈ ls, s.size ≤ 65536) ∧ LogOwn w.heap.size wr w.heap.size ls ∧ Below w.heap.size w wr) (fun vi _ => ss.length - (intOf vi).toNat)
  case atStart => exact ⟨0, [], Nat.zero_le _, rfl, by simp, by simp, HO.out, HB1.out⟩
  case round =>
    obtain ⟨i, ls, hin, rfl, hl, hsm, ho, hbel⟩ := hrel
    rename World => wA
    have HSZ := Lib.hid (size_log w.heap.size ls wA ho.at (by omega))
    have HOW := Lib.hid ho
    have HBL := Lib.hid hbel
    have HSM := Lib.hid hsm
    clear ho hbel hsm HO HB1
    by_cases hi : i < ss.length
    · by_cases h4 : ls.length < 400
      · have i1 : (i : Int) < (ss.length : Int) := by omega
        have i2 : (ls.length : Int) < 400 := by omega
        obtain ⟨s, hs⟩ : ∃ s, ss[i]? = some s := ⟨_, List.getElem?_eq_getElem hi⟩
        obtain ⟨g, o, rfl, hrow⟩ := HR.out (fun e => by rw [e] at hi; simp at hi)
        have ci : wA.cell? ⟨g, o + i, none⟩ = some (.string s) := below_cell HBL.out (hrow i (.string s) (by rw [List.getElem?_map, hs]; rfl))
        have HAP := Lib.hid (append_log S w.heap.size w.heap.size ls s wA HOW.out hl (HF.out.below HBL.out) HBL.out.size)
        clear hrow hs
        go_wp2_with (first | (go_at_call 13; refine HSZ.out.mono ?_; rintro e w' ⟨rfl, rfl⟩) | (go_at_call 14; refine HAP.out.mono ?_))
        rintro e w2 ⟨⟨r, ev, rfl, _⟩, ho2, hb2⟩
        have HO2 := Lib.hid ho2
        have HB2 := Lib.hid (HBL.out.trans hb2)
        clear ho2 hb2
        go_wp2_with fail
        refine ⟨⟨i + 1, (if s.size ≤ 65536 then ls ++ [s] else ls), hi, by go_num, ?_, ?_, HO2.out, HB2.out⟩, by simp [intOf]; omega⟩
        · split
          · simp; omega
          · exact hl
        · intro x hx
          split at hx
          · rename_i hs
            rcases List.mem_append.1 hx with h | h
            · exact HSM.out x h
            · rw [List.mem_singleton.1 h]; exact hs
          · exact HSM.out x hx
      · have i1 : (i : Int) < (ss.length : Int) := by omega
        have i2 : ¬ (ls.length : Int) < 400 := by omega
        go_wp2_with (go_at_call 13; refine HSZ.out.mono ?_; rintro e w' ⟨rfl, rfl⟩)
        go_ret
        exact ⟨_, ls, rfl, Nat.le_refl _, HOW.out.at, hl, HSM.out, HBL.out⟩
    · have i1 : ¬ (i : Int) < (ss.length : Int) := by omega
      go_wp2_with fail
      go_ret
      exact ⟨_, ls, rfl, Nat.le_refl _, HOW.out.at, hl, HSM.out, HBL.out⟩
end Go.Proofs.YthcccgbodceeeaaDoor
