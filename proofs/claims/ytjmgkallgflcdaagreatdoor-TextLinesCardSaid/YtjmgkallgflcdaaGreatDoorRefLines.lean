/-
  cartularyref03.Lines by its contract.
-/
import Derived.Test.YtjmgkallgflcdaaGreatDoorRefFH
import Derived.Test.YtjmgkallgflcdaaGreatDoorRows2
import Derived.Test.YtjmgkallgflcdaaGreatDoorBook3
namespace Go.Proofs.YtjmgkallgflcdaaGreatDoor
open Go.RowKit

theorem TextsOwn.conv {B : Nat} {w : World} {v : Value} {L : List (List UInt8)} (h : TextsOwn B w v L) {B' : Nat} (hB : B' ≤ B) : TextsOwn B' w v L := by
  refine ⟨h.1, ?_⟩
  rcases h.2 with ⟨h1, h2⟩ | ⟨b, c, cur, e1, e2, e3⟩
  · exact .inl ⟨h1, h2⟩
  · exact .inr ⟨b, c, cur, e1, Nat.le_trans hB e2, e3⟩

def RLRel (s : ByteArray) (w : World) (vl vf vi : Value) (wr : World) : Prop :=
  ∃ (k fr : Nat) (L : List (List UInt8)), k ≤ s.size ∧ fr ≤ k ∧ vi = .int .i64 k ∧ vf = .int .i64 fr ∧ L.length ≤ k ∧ TextsOwn (fW w).heap.size wr vl L ∧ Below (fW w).heap.size (fW w) wr ∧
    L ++ linesK ((s.data.toList.drop fr).take (k - fr)) (s.data.toList.drop k) = linesK [] s.data.toList

set_option maxHeartbeats 2000000 in
set_option maxRecDepth 100000 in
theorem refLines_any (s : ByteArray) (w : World) (hs : s.size ≤ 9223372036854775000) :
    Calls Tryz.prog 19 #[.string s] w fun e w' => ∃ v, e = .returned (.tuple #[v, .agg #[.int .i64 ((linesOf s.data.toList).2.1 : Int), .int .i64 (fz (linesOf s.data.toList).2.1 (linesOf s.data.toList).2.2)]]) ∧ TextsOwn w.heap.size w' v (linesOf s.data.toList).1 ∧ Below w.heap.size w w' := by
  have hsz := size_list s
  have HS := Lib.hid hsz
  by_cases hbig : 1048576 < s.size
  · have HP := Lib.hid fun W => faultPlain_any 4 (by decide) W
    have hr : linesOf s.data.toList = ([], 4, none) := by unfold linesOf; rw [if_pos (by omega)]
    have HR := Lib.hid hr
    clear hr hsz
    go_enter Tryz.func19, Tryz.ntmps19
    go_wp2_with fail
    refine (HP.out _).mono ?_
    rintro e w1 ⟨rfl, b1⟩
    have hh := (fW_row w).below b1
    obtain ⟨c0, c1, f0, f1⟩ := hh.cells
    have HH := Lib.hid hh
    have hb := end_below (fW_below b1) 4 (-1)
    clear hh
    go_wp2_with fail
    refine ret_told rfl w.heap.size 4 (-1) (.slice none 0 0) (fault_set HH.out _ _) rfl rfl rfl ⟨.slice none 0 0, ?_, ?_, hb⟩
    · rw [HR.out]; rfl
    · rw [HR.out]; exact World.ownsRow_nil _ _ _ _
  · by_cases hbad : 0 < s.size ∧ s.data.toList[s.size - 1]? ≠ some 10
    · obtain ⟨h0, h10⟩ := hbad
      obtain ⟨c, hc⟩ : ∃ c, s.data.toList[s.size - 1]? = some c := ⟨_, List.getElem?_eq_getElem (by omega)⟩
      have hne3 : s.data.toList ≠ [] := fun e => by rw [e] at hc; simp at hc
      have hlast : s.data.toList.getLast? = some c := by rw [List.getLast?_eq_getElem?, hsz]; exact hc
      have hc10 : c ≠ 10 := fun e => h10 (by rw [hc, e])
      have hr : linesOf s.data.toList = ([], 3, some (s.size : Int)) := by
        unfold linesOf; rw [if_neg (by omega), if_neg hne3, if_neg (by rw [hlast]; intro e; exact hc10 (Option.some.inj e)), hsz]
      have HR := Lib.hid hr
      have x0 := fun w => run_idx (P := Tryz.prog) Tryz.underlying9 s (s.size - 1) c hc ((s.size : Int) - 1) (by omega) .i64 w
      have hc256 := UInt8.toNat_lt c
      have hcn : ((c.toNat : Int) != 10) = true := by
        rw [bne_iff_ne]; intro e; exact hc10 (UInt8.toNat_inj.1 (by simpa using (by omega : c.toNat = 10)))
      have i0 : (0 : Int) < (s.size : Int) := by omega
      have ew : IntKind.i64.wrap ((s.size : Int) - 1) = (s.size : Int) - 1 := by rw [IntKind.wrap_i64]; omega
      have HP := Lib.hid fun W => faultPlaced_any 3 (s.size : Int) W
      clear hr hsz hlast h10 hc hne3 hc10
      go_enter Tryz.func19, Tryz.ntmps19
      go_wp2_with fail
      refine (HP.out _).mono ?_
      rintro e w1 ⟨rfl, b1⟩
      have hh := (fW_row w).below b1
      obtain ⟨c0, c1, f0, f1⟩ := hh.cells
      have HH := Lib.hid hh
      have hb := end_below (fW_below b1) 3 (s.size : Int)
      clear hh
      go_wp2_with fail
      refine ret_told rfl w.heap.size 3 (s.size : Int) (.slice none 0 0) (fault_set HH.out _ _) rfl rfl rfl ⟨.slice none 0 0, ?_, ?_, hb⟩
      · rw [HR.out]; rfl
      · rw [HR.out]; exact World.ownsRow_nil _ _ _ _
    · have hr : linesOf s.data.toList = (linesK [] s.data.toList, 0, none) := by
        unfold linesOf
        rw [if_neg (by omega)]
        by_cases hnil : s.data.toList = []
        · rw [if_pos hnil, hnil]; rfl
        · have h0 : 0 < s.size := by
            rcases Nat.eq_zero_or_pos s.size with h | h
            · exact absurd (List.eq_nil_of_length_eq_zero (by omega)) hnil
            · exact h
          have h10 : s.data.toList[s.size - 1]? = some 10 := by
            by_cases h : s.data.toList[s.size - 1]? = some 10
            · exact h
            · exact absurd ⟨h0, h⟩ hbad
          rw [if_neg hnil, if_pos (by rw [List.getLast?_eq_getElem?, hsz]; exact h10)]
      have HR := Lib.hid hr
      have hstart : ∃ (Q : World → Prop), True := ⟨fun _ => True, trivial⟩
      clear hr hstart
      go_enter Tryz.func19, Tryz.ntmps19
      rcases Nat.eq_zero_or_pos s.size with h0 | h0
      · have i0 : ¬ (0 : Int) < (s.size : Int) := by omega
        have hl : s.data.toList = [] := List.eq_nil_of_length_eq_zero (by rw [HS.out]; exact h0)
        have hl2 : linesK [] s.data.toList = [] := by rw [hl]; rfl
        have HL := Lib.hid hl2
        have hb0 : Below w.heap.size w (w.alloc (.cells #[.int .i64 0, .int .i64 0] 36)) := (Below.refl _ _).alloc (Nat.le_refl _) _
        clear hl hl2 hbad
        go_wp2_with fail
        refine wp_loop_rounds 1 ?_
        rw [rounds_succ]
        have i2 : ¬ (0 : Int) < (s.size : Int) := by omega
        go_wp2_with fail
        refine ret_told rfl w.heap.size 0 0 (.slice none 0 0) (fW_row w) rfl rfl rfl ⟨.slice none 0 0, ?_, ?_, hb0⟩
        · rw [HR.out]; rfl
        · rw [HR.out, HL.out]; exact World.ownsRow_nil _ _ _ _
      · have h10 : s.data.toList[s.size - 1]? = some 10 := by
          by_cases h : s.data.toList[s.size - 1]? = some 10
          · exact h
          · exact absurd ⟨h0, h⟩ hbad
        have x0 := fun w => run_idx (P := Tryz.prog) Tryz.underlying9 s (s.size - 1) 10 h10 ((s.size : Int) - 1) (by omega) .i64 w
        have i0 : (0 : Int) < (s.size : Int) := by omega
        have ew : IntKind.i64.wrap ((s.size : Int) - 1) = (s.size : Int) - 1 := by rw [IntKind.wrap_i64]; omega
        clear h10
        go_wp2_with fail
        go_loopw [4, 5, 6] (fun vl vf vi wr => RLRel s w vl vf vi wr) (fun _ _ vi _ => s.size - (intOf vi).toNat)
        case atStart => exact ⟨0, 0, [], by omega, by omega, rfl, rfl, by simp, World.ownsRow_nil _ _ _ _, Below.refl _ _, rfl⟩
        case round =>
          obtain ⟨k, fr, L, hk, hfr, rfl, rfl, hLk, hown, hbel, hacc⟩ := hrel
          have HA := Lib.hid hacc
          have HO := Lib.hid hown
          clear hacc hown hbad
          have hwsz := hbel.size
          by_cases hlt : k < s.size
          · have i3 : (k : Int) < (s.size : Int) := by omega
            obtain ⟨c, hc, hd⟩ := drop_at hlt
            have xk := fun w => run_idx (P := Tryz.prog) Tryz.underlying9 s k c hc (k : Int) rfl .i64 w
            have hc256 := UInt8.toNat_lt c
            have ek : IntKind.i64.wrap ((k : Int) + 1) = (k : Int) + 1 := by rw [IntKind.wrap_i64]; omega
            have hacc2 := HA.out
            rw [hd] at hacc2
            by_cases h10 : c = 10
            · subst h10
              have hf : (L ++ [(s.data.toList.drop fr).take (k - fr)]) ++ linesK [] (s.data.toList.drop (k + 1)) = linesK [] s.data.toList := by
                rw [← hacc2, linesK, if_pos rfl, List.append_assoc]; rfl
              have HF := Lib.hid hf
              clear hacc2 hf hd hc
              have b4 : Below wr.heap.size wr (wr.alloc (.cells #[.string (s.extract fr k)] 9)) := (Below.refl _ _).alloc (Nat.le_refl _) _
              have hnew : (wr.alloc (.cells #[.string (s.extract fr k)] 9)).cell? ⟨wr.heap.size, 0, none⟩ = some (.string (s.extract fr k)) := by
                rw [cell_of_row _ _ 0 _ _ _ (heap_alloc_new wr _)]
                rfl
              have i5 : (fr : Int) ≤ (k : Int) := by omega
              have i6 : (k : Int) ≤ (s.size : Int) := by omega
              have i7 : (0 : Int) ≤ (fr : Int) := by omega
              have i8 : (0 : Int) ≤ (k : Int) := by omega
              have HO4 := Lib.hid (rowKeep HO.out fun g hg => b4.block g ((HO.out.lt g hg).2))
              have HB4 := Lib.hid (below_trans hbel b4)
              have HNEW := Lib.hid hnew
              have hs4 : (wr.alloc (.cells #[.string (s.extract fr k)] 9)).heap.size = wr.heap.size + 1 := by simp
              clear b4 hnew
              go_wp2_with (at_builtin; refine wpList_append_one rfl (.tmp 35) (.tmp 40) rfl (B := (fW w).heap.size) (n := L.length) rfl HO4.out rfl HNEW.out (by omega) (by omega) ?_)
              intro v' W5 g1 g2 g3 g4
              have hb5 : Below (fW w).heap.size (fW w) W5 := HB4.out.grown g2 HB4.out.size fun g hg => (HO4.out.lt g hg).1
              have ho5 : TextsOwn (fW w).heap.size W5 v' (L ++ [(s.data.toList.drop fr).take (k - fr)]) := by
                unfold TextsOwn
                rw [List.map_append, List.length_append]
                have e : (Value.string (s.extract fr k)) = .string ⟨((s.data.toList.drop fr).take (k - fr)).toArray⟩ := by rw [← Lib.extract_data]
                rw [e] at g1
                exact g1
              clear g1 g2 g3 g4
              go_wp2_with fail
              go_roundw
              case rel => exact ⟨k + 1, k + 1, _, by omega, by omega, by go_num, by go_num, by simp; omega, ho5, hb5, by rw [Nat.sub_self]; exact HF.out⟩
              case measure => simp [intOf]; omega
            · have hcn : ((c.toNat : Int) == 10) = false := by
                rw [beq_eq_false_iff_ne]; intro e; exact h10 (UInt8.toNat_inj.1 (by simpa using (by omega : c.toNat = 10)))
              have hf : L ++ linesK ((s.data.toList.drop fr).take (k + 1 - fr)) (s.data.toList.drop (k + 1)) = linesK [] s.data.toList := by
                rw [← hacc2, linesK, if_neg h10, show k + 1 - fr = (k - fr) + 1 by omega, List.take_add_one, List.getElem?_drop, show fr + (k - fr) = k by omega, hc]
                rfl
              have HF := Lib.hid hf
              clear hacc2 hf hd hc h10
              go_wp2_with fail
              go_roundw
              case rel => exact ⟨k + 1, fr, L, by omega, by omega, by go_num, rfl, by omega, HO.out, hbel, HF.out⟩
              case measure => simp [intOf]; omega
          · obtain rfl : k = s.size := by omega
            have i3 : ¬ (s.size : Int) < (s.size : Int) := by omega
            have hf : L = linesK [] s.data.toList := by
              have e : s.data.toList.drop s.size = [] := List.drop_eq_nil_of_le (by rw [HS.out]; exact Nat.le_refl _)
              rw [← HA.out, e]
              simp [linesK]
            have HF := Lib.hid hf
            have hh := (fW_row w).below hbel
            obtain ⟨c0, c1, f0, f1⟩ := hh.cells
            have HH := Lib.hid hh
            have hb := end_below (fW_below hbel) 0 0
            clear hh hf
            go_wp2_with fail
            refine ret_told rfl w.heap.size 0 0 u4 (fault_set HH.out _ _) rfl rfl rfl ⟨u4, ?_, ?_, hb⟩
            · rw [HR.out]; rfl
            · rw [HR.out, ← HF.out]
              refine TextsOwn.conv ?_ (Nat.le_of_lt (by rw [fW_size]; omega) : w.heap.size ≤ (fW w).heap.size)
              exact rowKeep HO.out fun g hg => by
                have hg1 := (HO.out.lt g hg).1
                rw [fW_size] at hg1
                rw [heap_setCell_other _ _ _ _ (show g ≠ w.heap.size by omega), heap_setCell_other _ _ _ _ (show g ≠ w.heap.size by omega)]
end Go.Proofs.YtjmgkallgflcdaaGreatDoor
