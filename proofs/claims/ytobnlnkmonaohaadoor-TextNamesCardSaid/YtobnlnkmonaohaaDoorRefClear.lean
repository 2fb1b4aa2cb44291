/-
  cartularyref03: clear, Name and Plain by contracts (printed by wip/genclear.py).
-/
import Derived.Test.YtobnlnkmonaohaaDoorRefFirst
namespace Go.Proofs.YtobnlnkmonaohaaDoor
open Go.RowKit

theorem first_bel (s : ByteArray) (w : World) (hne : s.data.toList ≠ []) :
    Calls Tryd.prog 69 #[.string s] w fun e w' => e = .returned (.tuple #[.int .i32 ((firstOf s.data.toList).1 : Int), .int .i64 ((firstOf s.data.toList).2 : Int)]) ∧ Below w.heap.size w w' :=
  (first_any s w hne).mono fun _ _ ⟨he, n, hn⟩ => ⟨he, hn ▸ below_drewN (Below.refl _ _) n⟩
theorem firstOf_le (l : List UInt8) (hne : l ≠ []) : (firstOf l).2 ≤ l.length := by
  unfold firstOf
  split
  · exact Nat.zero_le _
  · exact Lib.decodeL_le l hne
def ClearRel (bad : Int → Bool) (s : ByteArray) (w : World) (v : Value) (wr : World) : Prop :=
  ∃ t : ByteArray, v = .string t ∧ t.size ≤ s.size ∧ Below w.heap.size w wr ∧ goodD bad s.size s.data.toList = goodD bad t.size t.data.toList
theorem extract_size (t : ByteArray) (n : Nat) : (t.extract n t.size).size = t.size - n := by
  have e := size_list (t.extract n t.size)
  rw [Lib.extract_to_end, List.length_drop, size_list] at e
  exact e.symm

set_option maxHeartbeats 2000000 in
set_option maxRecDepth 100000 in
theorem clear_true (s : ByteArray) (w : World) :
    Calls Tryd.prog 57 #[.string s, .bool true, .bool false] w fun e w' => e = .returned (.bool (goodD badName s.size s.data.toList)) ∧ Below w.heap.size w w' := by
  go_enter Tryd.func57, Tryd.ntmps57
  go_wp2_with fail
  go_loopw [0] (fun v wr => ClearRel badName s w v wr) (fun v _ => strLen v)
  case atStart => exact ⟨s, rfl, Nat.le_refl _, Below.refl _ _, rfl⟩
  case round =>
    obtain ⟨t, rfl, hts, hbel, hg⟩ := hrel
    have HG := Lib.hid hg
    clear hg
    by_cases h0 : t.size = 0
    · have hf : goodD badName s.size s.data.toList = true := by rw [HG.out, h0]; rfl
      have HF := Lib.hid hf
      clear hf
      go_wp2_with fail
      go_ret
      exact ⟨ret_bool (by rw [HF.out]), hbel⟩
    · have hsz := size_list t
      have hne : t.data.toList ≠ [] := fun e => by rw [e] at hsz; simp at hsz; omega
      obtain ⟨m, hm⟩ : ∃ m, t.size = m + 1 := ⟨t.size - 1, by omega⟩
      have hst := goodD_first badName m t.data.toList hne
      rw [← hm, ← HG.out] at hst
      have hle := firstOf_le t.data.toList hne
      rw [hsz] at hle
      have HC := Lib.hid (first_bel t wr hne)
      have hfu : ∀ n, n ≠ 0 → n ≤ t.size → goodD badName m (t.data.toList.drop n) = goodD badName (t.extract n t.size).size (t.extract n t.size).data.toList := fun n _ _ => by
        rw [Lib.extract_to_end]
        exact goodD_fuel _ _ _ _ (by rw [List.length_drop]; omega) (by rw [extract_size t n, List.length_drop]; omega)
      have hes := fun n => extract_size t n
      have HFU := Lib.hid hfu
      have HES := Lib.hid hes
      clear hne hfu hes hm
      generalize firstOf t.data.toList = pr at *
      obtain ⟨R, n⟩ := pr
      simp only at hst hle HC
      have HST := Lib.hid hst
      clear hst hsz
      by_cases hn : n = 0
      · subst hn
        have hf : goodD badName s.size s.data.toList = false := by rw [HST.out, if_pos rfl]
        have HF := Lib.hid hf
        clear hf
        go_wp2_with (go_at_call 69; refine HC.out.mono ?_; rintro e w1 ⟨rfl, b1⟩)
        go_ret
        exact ⟨ret_bool (by rw [HF.out]), hbel.trans (b1.mono hbel.size)⟩
      · have hn' : ((n : Int) == 0) = false := by rw [beq_eq_false_iff_ne]; omega
        cases hc : controlB R with
        | true =>
          have hC : ∀ W, Calls Tryd.prog 70 #[.int .i32 R] W fun e w' => e = .returned (.bool true) ∧ W = w' := fun W => by have := refControl_any R W; rwa [hc] at this
          have HCT := Lib.hid hC
          have hf : goodD badName s.size s.data.toList = false := by rw [HST.out, if_neg hn, if_pos (by simp [badName, hc])]
          have HF := Lib.hid hf
          clear hf hc hC hn
          go_wp2_with (first | (go_at_call 69; refine HC.out.mono ?_; rintro e w1 ⟨rfl, b1⟩) | (go_at_call 70; refine (HCT.out _).mono ?_; rintro e w2 ⟨rfl, rfl⟩))
          go_ret
          exact ⟨ret_bool (by rw [HF.out]), hbel.trans (b1.mono hbel.size)⟩
        | false =>
          have hC : ∀ W, Calls Tryd.prog 70 #[.int .i32 R] W fun e w' => e = .returned (.bool false) ∧ W = w' := fun W => by have := refControl_any R W; rwa [hc] at this
          have HCT := Lib.hid hC
          cases hbk : blankB R with
          | true =>
            have hD : ∀ W, Calls Tryd.prog 71 #[.int .i32 R] W fun e w' => e = .returned (.bool true) ∧ W = w' := fun W => by have := refBlank_any R W; rwa [hbk] at this
            have HD := Lib.hid hD
            have hf : goodD badName s.size s.data.toList = false := by rw [HST.out, if_neg hn, if_pos (by simp [badName, hbk])]
            have HF := Lib.hid hf
            clear hf hc hC hbk hD hn
            go_wp2_with (first | (go_at_call 69; refine HC.out.mono ?_; rintro e w1 ⟨rfl, b1⟩) | (go_at_call 70; refine (HCT.out _).mono ?_; rintro e w2 ⟨rfl, rfl⟩) | (go_at_call 71; refine (HD.out _).mono ?_; rintro e w3 ⟨rfl, rfl⟩))
            go_ret
            exact ⟨ret_bool (by rw [HF.out]), hbel.trans (b1.mono hbel.size)⟩
          | false =>
            have hD : ∀ W, Calls Tryd.prog 71 #[.int .i32 R] W fun e w' => e = .returned (.bool false) ∧ W = w' := fun W => by have := refBlank_any R W; rwa [hbk] at this
            have HD := Lib.hid hD
            by_cases h43 : R = 43
            · have hf : goodD badName s.size s.data.toList = false := by rw [HST.out, if_neg hn, if_pos (by simp [badName, h43])]
              have HF := Lib.hid hf
              have h43' : ((R : Int) == 43) = true := by rw [h43]; rfl
              clear hf hc hC hbk hD hn h43
              go_wp2_with (first | (go_at_call 69; refine HC.out.mono ?_; rintro e w1 ⟨rfl, b1⟩) | (go_at_call 70; refine (HCT.out _).mono ?_; rintro e w2 ⟨rfl, rfl⟩) | (go_at_call 71; refine (HD.out _).mono ?_; rintro e w3 ⟨rfl, rfl⟩))
              go_ret
              exact ⟨ret_bool (by rw [HF.out]), hbel.trans (b1.mono hbel.size)⟩
            · have hf : goodD badName s.size s.data.toList = goodD badName (t.extract n t.size).size (t.extract n t.size).data.toList := by rw [HST.out, if_neg hn, if_neg (by simp [badName, hbk, hc]; omega), HFU.out n hn hle]
              have HF := Lib.hid hf
              have h43' : ((R : Int) == 43) = false := by rw [beq_eq_false_iff_ne]; omega
              clear hf hc hC hbk hD h43
              go_wp2_with (first | (go_at_call 69; refine HC.out.mono ?_; rintro e w1 ⟨rfl, b1⟩) | (go_at_call 70; refine (HCT.out _).mono ?_; rintro e w2 ⟨rfl, rfl⟩) | (go_at_call 71; refine (HD.out _).mono ?_; rintro e w3 ⟨rfl, rfl⟩))
              go_roundw
              case rel => exact ⟨_, rfl, by rw [HES.out n]; omega, hbel.trans (b1.mono hbel.size), HF.out⟩
              case measure => simp [strLen, HES.out n]; omega
set_option maxHeartbeats 2000000 in
set_option maxRecDepth 100000 in
theorem clear_false (s : ByteArray) (w : World) :
    Calls Tryd.prog 57 #[.string s, .bool false, .bool false] w fun e w' => e = .returned (.bool (goodD controlB s.size s.data.toList)) ∧ Below w.heap.size w w' := by
  go_enter Tryd.func57, Tryd.ntmps57
  go_wp2_with fail
  go_loopw [0] (fun v wr => ClearRel controlB s w v wr) (fun v _ => strLen v)
  case atStart => exact ⟨s, rfl, Nat.le_refl _, Below.refl _ _, rfl⟩
  case round =>
    obtain ⟨t, rfl, hts, hbel, hg⟩ := hrel
    have HG := Lib.hid hg
    clear hg
    by_cases h0 : t.size = 0
    · have hf : goodD controlB s.size s.data.toList = true := by rw [HG.out, h0]; rfl
      have HF := Lib.hid hf
      clear hf
      go_wp2_with fail
      go_ret
      exact ⟨ret_bool (by rw [HF.out]), hbel⟩
    · have hsz := size_list t
      have hne : t.data.toList ≠ [] := fun e => by rw [e] at hsz; simp at hsz; omega
      obtain ⟨m, hm⟩ : ∃ m, t.size = m + 1 := ⟨t.size - 1, by omega⟩
      have hst := goodD_first controlB m t.data.toList hne
      rw [← hm, ← HG.out] at hst
      have hle := firstOf_le t.data.toList hne
      rw [hsz] at hle
      have HC := Lib.hid (first_bel t wr hne)
      have hfu : ∀ n, n ≠ 0 → n ≤ t.size → goodD controlB m (t.data.toList.drop n) = goodD controlB (t.extract n t.size).size (t.extract n t.size).data.toList := fun n _ _ => by
        rw [Lib.extract_to_end]
        exact goodD_fuel _ _ _ _ (by rw [List.length_drop]; omega) (by rw [extract_size t n, List.length_drop]; omega)
      have hes := fun n => extract_size t n
      have HFU := Lib.hid hfu
      have HES := Lib.hid hes
      clear hne hfu hes hm
      generalize firstOf t.data.toList = pr at *
      obtain ⟨R, n⟩ := pr
      simp only at hst hle HC
      have HST := Lib.hid hst
      clear hst hsz
      by_cases hn : n = 0
      · subst hn
        have hf : goodD controlB s.size s.data.toList = false := by rw [HST.out, if_pos rfl]
        have HF := Lib.hid hf
        clear hf
        go_wp2_with (go_at_call 69; refine HC.out.mono ?_; rintro e w1 ⟨rfl, b1⟩)
        go_ret
        exact ⟨ret_bool (by rw [HF.out]), hbel.trans (b1.mono hbel.size)⟩
      · have hn' : ((n : Int) == 0) = false := by rw [beq_eq_false_iff_ne]; omega
        cases hc : controlB R with
        | true =>
          have hC : ∀ W, Calls Tryd.prog 70 #[.int .i32 R] W fun e w' => e = .returned (.bool true) ∧ W = w' := fun W => by have := refControl_any R W; rwa [hc] at this
          have HCT := Lib.hid hC
          have hf : goodD controlB s.size s.data.toList = false := by rw [HST.out, if_neg hn, if_pos (by simp [hc])]
          have HF := Lib.hid hf
          clear hf hc hC hn
          go_wp2_with (first | (go_at_call 69; refine HC.out.mono ?_; rintro e w1 ⟨rfl, b1⟩) | (go_at_call 70; refine (HCT.out _).mono ?_; rintro e w2 ⟨rfl, rfl⟩))
          go_ret
          exact ⟨ret_bool (by rw [HF.out]), hbel.trans (b1.mono hbel.size)⟩
        | false =>
          have hC : ∀ W, Calls Tryd.prog 70 #[.int .i32 R] W fun e w' => e = .returned (.bool false) ∧ W = w' := fun W => by have := refControl_any R W; rwa [hc] at this
          have HCT := Lib.hid hC
          have hf : goodD controlB s.size s.data.toList = goodD controlB (t.extract n t.size).size (t.extract n t.size).data.toList := by rw [HST.out, if_neg hn, if_neg (by simp [hc]), HFU.out n hn hle]
          have HF := Lib.hid hf
          clear hf hc hC
          go_wp2_with (first | (go_at_call 69; refine HC.out.mono ?_; rintro e w1 ⟨rfl, b1⟩) | (go_at_call 70; refine (HCT.out _).mono ?_; rintro e w2 ⟨rfl, rfl⟩))
          go_roundw
          case rel => exact ⟨_, rfl, by rw [HES.out n]; omega, hbel.trans (b1.mono hbel.size), HF.out⟩
          case measure => simp [strLen, HES.out n]; omega

theorem refName_any (s : ByteArray) (w : World) :
    Calls Tryd.prog 20 #[.string s] w fun e w' => e = .returned (.bool (nameOf s.data.toList)) ∧ Below w.heap.size w w' := by
  have hsz := size_list s
  by_cases h1 : s.size < 1
  · have hr : nameOf s.data.toList = false := by unfold nameOf; rw [hsz]; simp; omega
    rw [hr]
    clear hr hsz
    go_enter Tryd.func20, Tryd.ntmps20
    go_wp2_with fail
    go_ret
    exact ⟨rfl, Below.refl _ _⟩
  · by_cases h2 : 64 < s.size
    · have hr : nameOf s.data.toList = false := by unfold nameOf; rw [hsz]; simp; omega
      rw [hr]
      clear hr hsz
      go_enter Tryd.func20, Tryd.ntmps20
      go_wp2_with fail
      go_ret
      exact ⟨rfl, Below.refl _ _⟩
    · have hr : nameOf s.data.toList = goodD badName s.size s.data.toList := by unfold nameOf; rw [hsz]; simp; omega
      rw [hr]
      clear hr hsz
      have HC := Lib.hid (clear_true s w)
      go_enter Tryd.func20, Tryd.ntmps20
      go_wp2_with (go_at_call 57; refine HC.out.mono ?_; rintro e w1 ⟨rfl, b1⟩)
      go_ret
      exact ⟨rfl, b1⟩
theorem refPlain_any (s : ByteArray) (w : World) :
    Calls Tryd.prog 22 #[.string s] w fun e w' => e = .returned (.bool (plainOf s.data.toList)) ∧ Below w.heap.size w w' := by
  have hsz := size_list s
  by_cases h2 : 4096 < s.size
  · have hr : plainOf s.data.toList = false := by unfold plainOf; rw [hsz]; simp; omega
    rw [hr]
    clear hr hsz
    go_enter Tryd.func22, Tryd.ntmps22
    go_wp2_with fail
    go_ret
    exact ⟨rfl, Below.refl _ _⟩
  · have hr : plainOf s.data.toList = goodD controlB s.size s.data.toList := by unfold plainOf; rw [hsz]; simp; omega
    rw [hr]
    clear hr hsz
    have HC := Lib.hid (clear_false s w)
    go_enter Tryd.func22, Tryd.ntmps22
    go_wp2_with (go_at_call 57; refine HC.out.mono ?_; rintro e w1 ⟨rfl, b1⟩)
    go_ret
    exact ⟨rfl, b1⟩

/-! ### the walk of TextNames -/
set_option maxHeartbeats 2000000 in
set_option maxRecDepth 100000 in
theorem names_at (S : Nat → Addr) (s : ByteArray) (w : World) (hs : s.size ≤ 140737488351232) (hB : Base S w) (x y : Bool) (hx : nameOf s.data.toList = x) (hy : plainOf s.data.toList = y) :
    Calls Tryd.prog 4 #[.string s] w fun e w' => e = .returned (.bool true) ∧ Below w.heap.size w w' := by
  have N1 : ∀ W, Base S W → Calls Tryd.prog 19 #[.string s] W fun e w' => e = .returned (.bool x) ∧ Below W.heap.size W w' := fun W h => by have := name_any S s W (by omega) h; rwa [hx] at this
  have N2 : ∀ W, Calls Tryd.prog 20 #[.string s] W fun e w' => e = .returned (.bool x) ∧ Below W.heap.size W w' := fun W => by have := refName_any s W; rwa [hx] at this
  have P1 : ∀ W, Base S W → Calls Tryd.prog 21 #[.string s] W fun e w' => e = .returned (.bool y) ∧ Below W.heap.size W w' := fun W h => by have := plain_any S s W (by omega) h; rwa [hy] at this
  have P2 : ∀ W, Calls Tryd.prog 22 #[.string s] W fun e w' => e = .returned (.bool y) ∧ Below W.heap.size W w' := fun W => by have := refPlain_any s W; rwa [hy] at this
  have HN1 := Lib.hid N1
  have HN2 := Lib.hid N2
  have HP1 := Lib.hid P1
  have HP2 := Lib.hid P2
  have HB := Lib.hid hB
  clear N1 N2 P1 P2 hB hx hy
  have ex : (x == x) = true := by simp
  have ey : (y == y) = true := by simp
  go_enter Tryd.func4, Tryd.ntmps4
  go_wp2_with fail
  refine (HN1.out _ HB.out).mono ?_
  rintro e w1 ⟨rfl, b1⟩
  have B1 := Lib.hid (HB.out.below b1)
  go_wp2_with fail
  refine (HN2.out _).mono ?_
  rintro e w2 ⟨rfl, b2⟩
  have B2 := Lib.hid (B1.out.below b2)
  go_wp2_with fail
  refine (HP1.out _ B2.out).mono ?_
  rintro e w3 ⟨rfl, b3⟩
  have B3 := Lib.hid (B2.out.below b3)
  go_wp2_with fail
  refine (HP2.out _).mono ?_
  rintro e w4 ⟨rfl, b4⟩
  have B4 := Lib.hid (B3.out.below b4)
  go_wp2_with fail
  refine (alive_any S _ B4.out).mono ?_
  rintro e w5 ⟨rfl, b5⟩
  go_wp2_with fail
  go_ret
  exact ⟨rfl, below_trans (below_trans (below_trans (below_trans b1 b2) b3) b4) b5⟩
end Go.Proofs.YtobnlnkmonaohaaDoor
