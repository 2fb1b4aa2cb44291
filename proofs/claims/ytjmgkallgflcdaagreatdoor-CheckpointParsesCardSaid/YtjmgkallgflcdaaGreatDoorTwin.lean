/-
  cartularylaw01.word, markText, isText, TwinTexts and LeftTexts by contracts.
-/
import Derived.Test.YtjmgkallgflcdaaGreatDoorSameT
import Derived.Test.YtjmgkallgflcdaaGreatDoorFmt
import Derived.Test.YtjmgkallgflcdaaGreatDoorBase
import Derived.Lib.ItoaLen
import Derived.OwnWalk
import Derived.Laws.OwnMore
namespace Go.Proofs.YtjmgkallgflcdaaGreatDoor
open Go.RowKit

/-- A mark as a text. -/
def wordB (n : Int) : ByteArray := ⟨#[35]⟩ ++ ⟨(Lib.itoa n).toArray⟩
theorem word_any (n : Int) (h0 : -1000000 ≤ n) (h1 : n ≤ 1000000) (w : World) (htab : Tab w) :
    Calls Tryz.prog 145 #[.int .i64 n] w fun e w' => e = .returned (.string (wordB n)) ∧ Below w.heap.size w w' := by
  have hI := Tryz.strconv_Itoa n (by omega) (by omega) w htab
  have hl := Lib.itoa_length_le n (by omega) (by omega)
  have hx : (⟨(Lib.itoa n).toArray⟩ : ByteArray).size ≤ 21 := by
    show (Lib.itoa n).toArray.size ≤ 21
    simpa using hl
  have HI := Lib.hid hI
  unfold wordB
  generalize (⟨(Lib.itoa n).toArray⟩ : ByteArray) = x at *
  clear htab hI hl
  go_enter Tryz.func145, Tryz.ntmps145
  go_wp2_with fail
  refine HI.out.mono ?_
  rintro e w1 ⟨rfl, k, os, rfl⟩
  go_wp2_with fail
  go_ret
  exact ⟨rfl, below_grow w k os⟩
theorem markText_any (n : Int) (h0 : -1000000 ≤ n) (h1 : n ≤ 1000000) (w : World) (htab : Tab w) :
    Calls Tryz.prog 98 #[.int .i64 n] w fun e w' => e = .returned (.string (wordB n)) ∧ Below w.heap.size w w' := by
  have HI := Lib.hid (word_any n h0 h1 w htab)
  clear htab
  go_enter Tryz.func98, Tryz.ntmps98
  go_wp2_with fail
  refine HI.out.mono ?_
  rintro e w1 ⟨rfl, b⟩
  go_wp2_with fail
  go_ret
  exact ⟨rfl, b⟩
theorem isText_any (n : Int) (h0 : -1000000 ≤ n) (h1 : n ≤ 1000000) (w : World) (htab : Tab w) :
    Calls Tryz.prog 110 #[.string (wordB n), .int .i64 n] w fun e w' => e = .returned (.bool true) ∧ Below w.heap.size w w' := by
  have HI := Lib.hid (word_any n h0 h1 w htab)
  clear htab
  generalize wordB n = x at *
  have hxx : (x.toList == x.toList) = true := beq_self_eq_true _
  go_enter Tryz.func110, Tryz.ntmps110
  go_wp2_with fail
  refine HI.out.mono ?_
  rintro e w1 ⟨rfl, b⟩
  go_wp2_with fail
  go_ret
  exact ⟨rfl, b⟩

abbrev strV (l : List UInt8) : Value := .string ⟨l.toArray⟩
theorem infoStr : (Tryz.prog.info? 9).map (fun i => (i.zero, i.size, i.bytes)) = some (some (.string ⟨#[]⟩), 1, 16) := by kernel_rfl
theorem twin_row (L : List (List UInt8)) (k n : Nat) (hk : k < L.length) (hn : L.length + 1 = n) : (((L.take k).map strV ++ List.replicate (n - k) (Value.string ⟨#[]⟩)).set k (strV L[k])) = (L.take (k + 1)).map strV ++ List.replicate (n - (k + 1)) (Value.string ⟨#[]⟩) := by
  have hl : ((L.take k).map strV).length = k := by rw [List.length_map, List.length_take]; omega
  rw [List.set_append_right _ _ (by omega), hl, show k - k = 0 by omega, show n - k = (n - (k + 1)) + 1 by omega, List.replicate_succ, List.set_cons_zero, List.take_add_one, List.getElem?_eq_getElem hk, List.map_append, List.append_assoc]
  rfl
theorem twin_last (L : List (List UInt8)) (n : Nat) (hn : L.length + 1 = n) (v : Value) : ((L.map strV ++ List.replicate (n - L.length) (Value.string ⟨#[]⟩)).set L.length v) = L.map strV ++ [v] := by
  have hl : (L.map strV).length = L.length := by rw [List.length_map]
  rw [List.set_append_right _ _ (by omega), hl, show L.length - L.length = 0 by omega, show n - L.length = 1 by omega]
  rfl
theorem made_rep (v : Value) (n : Nat) : (madeCells #[v] n).toList = List.replicate n v := by
  refine List.ext_getElem (by simp [madeCells]) fun i h1 h2 => ?_
  simp [madeCells, Nat.mod_one]
/-- A copy with a mark behind it. -/
def Twin (B : Nat) (w : World) (g : Nat) (L : List (List UInt8)) : Prop :=
  w.ownsRow B 9 1 (.slice (some ⟨g, 0, none⟩) (L.length + 1) (L.length + 1)) (L.length + 1) (L.map strV ++ [.string (wordB 7777)])
theorem Twin.in_ {B g : Nat} {w : World} {L : List (List UInt8)} (h : Twin B w g L) : TextsIn w (.slice (some ⟨g, 0, none⟩) L.length (L.length + 1)) L := by
  refine ⟨_, _, rfl, fun _ => ⟨g, 0, rfl, fun k x hx => ?_⟩⟩
  have hk : k < L.length := (List.getElem?_eq_some_iff.1 hx).1
  have h0 : w.ownsRow B 9 1 (.slice (some ⟨g, 0, none⟩) (L.length + 1) (L.length + 1)) (L.length + 1) (L.map strV ++ [.string (wordB 7777)]) := h
  rw [Nat.zero_add, h0.cellAt k (by omega), List.getElem?_append_left (by rw [List.length_map]; exact hk), List.getElem?_map, hx]
  rfl
theorem Twin.mark {B g : Nat} {w : World} {L : List (List UInt8)} (h : Twin B w g L) : w.cell? ⟨g, L.length, none⟩ = some (.string (wordB 7777)) := by
  have h0 : w.ownsRow B 9 1 (.slice (some ⟨g, 0, none⟩) (L.length + 1) (L.length + 1)) (L.length + 1) (L.map strV ++ [.string (wordB 7777)]) := h
  rw [h0.cellAt L.length (by omega), List.getElem?_append_right (by rw [List.length_map]; exact Nat.le_refl _), List.length_map, Nat.sub_self]
  rfl
theorem Twin.lt {B g : Nat} {w : World} {L : List (List UInt8)} (h : Twin B w g L) : B ≤ g ∧ g < w.heap.size := by
  have h0 : w.ownsRow B 9 1 (.slice (some ⟨g, 0, none⟩) (L.length + 1) (L.length + 1)) (L.length + 1) (L.map strV ++ [.string (wordB 7777)]) := h
  exact h0.lt g rfl
theorem ownsRow_below {B : Nat} {w w' : World} {e : TypeId} {size n : Nat} {v : Value} {xs : List Value} (h : w.ownsRow B e size v n xs) (hb : Below w.heap.size w w') : w'.ownsRow B e size v n xs := by
  refine ⟨h.1, ?_⟩
  rcases h.2 with h' | ⟨g, cap, cur, rfl, hg, hh, hr⟩
  · exact .inl h'
  · exact .inr ⟨g, cap, cur, rfl, hg, below_heap hb hh, hr⟩
theorem Twin.below {B g : Nat} {w w' : World} {L : List (List UInt8)} (h : Twin B w g L) (hb : Below w.heap.size w w') : Twin B w' g L := ownsRow_below h hb

set_option maxHeartbeats 2000000 in
set_option maxRecDepth 100000 in
theorem twinTexts_any (w : World) (v : Value) (L : List (List UInt8)) (hT : TextsIn w v L) (hl : L.length ≤ 1048576) (htab : Tab w) :
    Calls Tryz.prog 24 #[v] w fun e w' => ∃ g, e = .returned (.slice (some ⟨g, 0, none⟩) L.length (L.length + 1)) ∧ Below w.heap.size w w' ∧ Twin w.heap.size w' g L := by
  obtain ⟨i0, hi, hz⟩ := Option.map_eq_some_iff.1 infoStr
  simp only [Prod.mk.injEq] at hz
  obtain ⟨hz0, hz1, hz2⟩ := hz
  obtain ⟨ao, c, rfl, hc⟩ := hT
  have HC := Lib.hid hc
  have HTAB := Lib.hid htab
  clear hc htab
  go_enter Tryz.func24, Tryz.ntmps24
  go_wp2_with (at_make; refine wpList_make_full _ rfl _ _ 25 rfl w.heap.size 9 i0 (.string ⟨#[]⟩) 1 Tryz.underlying25 hi hz0 hz1 .i64 .i64 _ _ (L.length + 1) rfl rfl (by go_num) (by go_num) (by rw [hz2]; omega) (by unfold maxLen; omega) (Nat.le_refl _) ?_)
  intro w1 hown1 hgrow1
  have hmade : (madeCells #[Value.string ⟨#[]⟩] (L.length + 1)).toList = List.replicate (L.length + 1) (Value.string ⟨#[]⟩) := made_rep _ _
  rw [hmade] at hown1
  have hb1 : Below w.heap.size w w1 := (Below.refl _ _).grown hgrow1 (Nat.le_refl _) (fun k h => by cases h)
  have HOWN := Lib.hid hown1
  have HB1 := Lib.hid hb1
  obtain ⟨n, hn⟩ : ∃ n, L.length + 1 = n := ⟨_, rfl⟩
  rw [hn] at HOWN
  clear hown1 hgrow1 hmade hb1
  go_wp2_with fail
  go_loopw [4] (fun vi wr => ∃ k : Nat, k ≤ L.length ∧ vi = .int .i64 k ∧ Below w.heap.size w wr ∧ wr.ownsRow w.heap.size 9 1 (.slice (some ⟨w.heap.size, 0, none⟩) n n) n ((L.take k).map strV ++ List.replicate (n - k) (Value.string ⟨#[]⟩))) (fun vi _ => L.length - (intOf vi).toNat)
  case atStart => exact ⟨0, by omega, rfl, HB1.out, HOWN.out⟩
  case round =>
    obtain ⟨k, hk, rfl, hbr, hown⟩ := hrel
    have HBR := Lib.hid hbr
    have HOW := Lib.hid hown
    have hnI : (L.length : Int) + 1 = (n : Int) := by omega
    by_cases hlt : k < L.length
    · have i0 : (0 : Int) ≤ (k : Int) := by omega
      have i1 : (k : Int) < (L.length : Int) := by omega
      have i2 : (k : Int) < (n : Int) := by omega
      obtain ⟨b, off, rfl, hcell⟩ := HC.out (fun e => by rw [e] at hlt; simp at hlt)
      have e1 := below_cell hbr (hcell k L[k] (List.getElem?_eq_getElem hlt))
      have hfz := hown.frozenAt k
      have hold : ∃ u, wr.cell? ⟨w.heap.size, k, none⟩ = some u := by
        rw [hown.cellAt k (by omega)]
        exact ⟨_, List.getElem?_eq_getElem (by have := hown.1; omega)⟩
      obtain ⟨u, hu⟩ := hold
      have hst := hown.stored k (strV L[k])
      rw [twin_row L k n hlt hn] at hst
      have HST := Lib.hid hst
      have HBS := Lib.hid (hbr.setCell (p := ⟨w.heap.size, k, none⟩) (Nat.le_refl _) (strV L[k]))
      clear hcell hst hbr hown
      go_wp2_with fail
      go_roundw
      case rel => exact ⟨k + 1, by omega, by go_num, HBS.out, HST.out.1⟩
      case measure => simp [intOf]; omega
    · obtain rfl : k = L.length := by omega
      have i1 : ¬ (L.length : Int) < (L.length : Int) := by omega
      have i2 : (L.length : Int) < (n : Int) := by omega
      have i3 : (0 : Int) ≤ (L.length : Int) := by omega
      rw [List.take_length] at hown
      have HOW2 := Lib.hid hown
      clear hown HOW
      go_wp2_with fail
      refine (markText_any 7777 (by omega) (by omega) _ (tab_below HTAB.out hbr)).mono ?_
      rintro e w2 ⟨rfl, b2⟩
      have hown2 := ownsRow_below HOW2.out b2
      have hfz := hown2.frozenAt L.length
      have hold : ∃ u, w2.cell? ⟨w.heap.size, L.length, none⟩ = some u := by
        rw [hown2.cellAt L.length (by omega)]
        exact ⟨_, List.getElem?_eq_getElem (by have := hown2.1; omega)⟩
      obtain ⟨u, hu⟩ := hold
      have hst := hown2.stored L.length (.string (wordB 7777))
      rw [twin_last L n hn] at hst
      have HST := Lib.hid hst
      have d2 := HBR.out.trans (b2.mono HBR.out.size)
      have HBS := Lib.hid (d2.setCell (p := ⟨w.heap.size, L.length, none⟩) (Nat.le_refl _) (.string (wordB 7777)))
      clear hst hown2 d2 b2 hbr
      obtain ⟨W, hW⟩ : ∃ W, wordB 7777 = W := ⟨_, rfl⟩
      rw [hW] at HST HBS
      have HW := Lib.hid hW
      rw [hW]
      clear hW
      go_wp2_with fail
      go_ret
      subst hn
      refine ⟨w.heap.size, rfl, HBS.out, ?_⟩
      unfold Twin
      rw [HW.out]
      exact HST.out.1
set_option maxHeartbeats 2000000 in
set_option maxRecDepth 100000 in
theorem leftTexts_any (w : World) (B g : Nat) (v : Value) (L : List (List UInt8)) (hTw : Twin B w g L) (hT : TextsIn w v L) (hl : L.length ≤ 1048576) (htab : Tab w) :
    Calls Tryz.prog 37 #[.slice (some ⟨g, 0, none⟩) L.length (L.length + 1), v] w fun e w' => e = .returned (.bool true) ∧ Below w.heap.size w w' := by
  have HST := Lib.hid (sameTexts_any w (.slice (some ⟨g, 0, none⟩) L.length (L.length + 1)) v L L hTw.in_ hT (by omega) (by omega))
  obtain ⟨ao, c, rfl, _⟩ := hT
  have hmk := hTw.mark
  have HTAB := Lib.hid htab
  have i0 : (0 : Int) ≤ (L.length : Int) := by omega
  have i1 : (L.length : Int) < (L.length : Int) + 1 := by omega
  have i2 : (L.length : Int) + 1 ≤ ((L.length + 1 : Nat) : Int) := by omega
  clear htab hTw
  have HIT := Lib.hid fun W (h : Tab W) => isText_any 7777 (by omega) (by omega) W h
  generalize wordB 7777 = W at *
  go_enter Tryz.func37, Tryz.ntmps37
  go_wp2_with fail
  refine HST.out.mono ?_
  rintro e w1 ⟨rfl, n, rfl⟩
  have hmk1 : (w.drewN n).cell? ⟨g, L.length, none⟩ = some (.string W) := hmk
  simp only [decide_true]
  go_wp2_with fail
  refine (HIT.out _ (tab_below HTAB.out (below_drewN (Below.refl _ _) n))).mono ?_
  rintro e w2 ⟨rfl, b2⟩
  go_wp2_with fail
  go_ret
  exact ⟨rfl, (below_drewN (Below.refl _ _) n).trans b2⟩
end Go.Proofs.YtjmgkallgflcdaaGreatDoor
