/-
  cartularylaw03.TextRows: its walk where both texts are read.
-/
import Derived.Test.YtobnlnkmonaohaaDoorRows3
namespace Go.Proofs.YtobnlnkmonaohaaDoor
open Go.RowKit
theorem wpList_append_texts {ops : Array Oper} {rest : List Oper} {o : Oper} {a : Act} {Q : Exit → Act → World → Prop} (hgd : Region.wanted o (yielded ops a.tmps) = true) (s x : Operand)
    (ho : o.op = .call { callee := .builtin .append, args := #[s, x], argTypes := #[35, 35] }) (hty : o.type = 35)
    (w : World) (B C : Nat) (v u : Value) (L M : List (List UInt8)) (hs : a.eval s = v) (hx : a.eval x = u) (hown : TextsOwn B w v L) (hM : TextsAt C w u M) (hlen : L.length + M.length ≤ 1048576) (hbase : B ≤ w.heap.size)
    (h : ∀ v' w', TextsOwn B w' v' (L ++ M) → w.grownBy w' v.ownBlock → wpList Tryd.prog ops Q rest (a.put o.dst v') w') :
    wpList Tryd.prog ops Q (o :: rest) a w := by
  refine wpList_step fun K hK => ?_
  rw [if_pos hgd]
  obtain ⟨v', w', hr, h2, h3⟩ := append_texts w B v u L M C hown hM hlen hbase
  unfold Oper.wp execOp
  simp only [ho, hty, resolve, invoke, builtin, Sem.run_bind, Sem.run_pure, Result.andThen_ok, List.map_toArray, List.map_cons, List.map_nil, hs, hx, hr]
  exact hK _ _ (h v' w' h2 h3)

theorem str_app (l m : List UInt8) : ({ data := l.toArray } : ByteArray) ++ ({ data := m.toArray } : ByteArray) = { data := (l ++ m).toArray } := by
  apply ByteArray.ext; simp
theorem joinL_le (L : List (List UInt8)) (k : Nat) : (joinL (L.take k)).length ≤ (joinL L).length := by
  have h : joinL L = joinL (L.take k) ++ joinL (L.drop k) := by rw [joinL, joinL, joinL, ← List.flatMap_append, List.take_append_drop]
  rw [h, List.length_append]; omega
theorem joinL_take (L : List (List UInt8)) (k : Nat) (x : List UInt8) (h : L[k]? = some x) : joinL (L.take (k + 1)) = joinL (L.take k) ++ x ++ [10] := by
  rw [List.take_add_one, h]
  simp [joinL]

set_option maxHeartbeats 4000000 in
set_option maxRecDepth 100000 in
theorem rows_ok (S : Nat → Addr) (s t : ByteArray) (w : World) (hn : s.size + t.size ≤ 1048576) (hs : okL s.data.toList) (ht : okL t.data.toList) (hB : Base S w) :
    Calls Tryd.prog 5 #[.string s, .string t] w fun e w' => e = .returned (.bool true) ∧ Below w.heap.size w w' := by
  have hst : okL (s ++ t).data.toList := by
    by_cases h : t.data.toList = []
    · rw [data_app, h, List.append_nil]; exact hs
    · rw [data_app, okL_app h]; exact ht
  have hsz := size_app s t
  have happ : linesK [] (s ++ t).data.toList = linesK [] s.data.toList ++ linesK [] t.data.toList := by rw [data_app]; exact linesK_app _ _ _ (fun _ => rfl) hs
  have hjoin : joinL (linesK [] s.data.toList) = s.data.toList := linesK_join _ _ (fun _ => rfl) hs
  have hno := linesK_no s.data.toList [] (by simp)
  have hl1 := linesK_len s.data.toList []
  have hl2 := linesK_len t.data.toList []
  rw [size_list] at hl1 hl2
  have L1 := Lib.hid (fun W h => lines_ok S s W hs (by omega) h)
  have L2 := Lib.hid (fun W h => lines_ok S t W ht (by omega) h)
  have L3 := Lib.hid (fun W h => lines_ok S (s ++ t) W hst (by omega) h)
  rw [happ] at L3
  generalize hL : linesK [] s.data.toList = L at *
  generalize hM : linesK [] t.data.toList = M at *
  have HJ := Lib.hid hjoin
  have HN := Lib.hid hno
  have HB := Lib.hid hB
  clear hB hst hs ht happ hjoin hno hL hM
  go_enter Tryd.func5, Tryd.ntmps5
  go_wp2_with fail
  refine (L1.out _ HB.out).mono ?_
  rintro e w1 ⟨v1, rfl, ht1, b1⟩
  have B1 := Lib.hid (HB.out.below b1)
  have T1 := Lib.hid ht1
  clear ht1
  go_wp2_with fail
  refine (L2.out _ B1.out).mono ?_
  rintro e w2 ⟨v2, rfl, ht2, b2⟩
  have B2 := Lib.hid (B1.out.below b2)
  have T1' := Lib.hid (T1.out.below b2)
  have T2 := Lib.hid ht2
  clear ht2
  go_wp2_with fail
  refine (L3.out _ B2.out).mono ?_
  rintro e w3 ⟨v3, rfl, ht3, b3⟩
  have B3 := Lib.hid (B2.out.below b3)
  have T13 := T1'.out.below b3
  have T23 := Lib.hid (T2.out.below b3)
  have T3 := Lib.hid ht3
  clear ht3
  have hB3sz := b3.size
  have T1b := Lib.hid T13
  obtain ⟨c1, a1, rfl, hcells⟩ := T13.in_
  have HC := Lib.hid hcells
  clear hcells T13
  go_wp2_with fail
  go_loopw [12, 13] (fun vb vi wr => ∃ k n : Nat, k ≤ L.length ∧ vi = .int .i64 k ∧ wr = w3.drewN n ∧ vb = .string ⟨(joinL (L.take k)).toArray⟩) (fun _ vi _ => L.length - (intOf vi).toNat)
  case atStart => exact ⟨0, 0, by omega, rfl, rfl, by simp [joinL]⟩
  case round =>
    obtain ⟨k, n, hk, rfl, rfl, rfl⟩ := hrel
    by_cases hlt : k < L.length
    · obtain ⟨x, hx⟩ : ∃ x, L[k]? = some x := ⟨_, List.getElem?_eq_getElem hlt⟩
      obtain ⟨b, off, rfl, hc⟩ := HC.out (fun e => by rw [e] at hlt; simp at hlt)
      have hno : 10 ∉ x := HN.out x (List.mem_of_getElem? hx)
      have e1 : ∀ j, (w3.drewN j).cell? ⟨b, off + k, none⟩ = some (.string ⟨x.toArray⟩) := fun j => hc k x hx
      have hjt := joinL_take L k x hx
      have hz : (joinL (L.take k)).length + x.length + 1 ≤ 1048576 := by
        have h1 := joinL_le L (k + 1)
        rw [HJ.out, hjt, size_list] at h1
        simp only [List.length_append, List.length_singleton] at h1
        omega
      have HJT := Lib.hid hjt
      have HNO := Lib.hid hno
      have HX := Lib.hid hx
      have i0 : (0 : Int) ≤ (k : Int) := by omega
      have i1 : (k : Int) < (L.length : Int) := by omega
      clear hno hjt hx hc
      have hxs : (ByteArray.mk x.toArray).size = x.length := by simp [ByteArray.size]
      go_wp2_with fail
      go_loopw [14] (fun vk wr => ∃ m n2 : Nat, m ≤ x.length ∧ vk = .int .i64 m ∧ wr = w3.drewN n2) (fun vk _ => x.length - (intOf vk).toNat)
      case atStart => exact ⟨0, n, by omega, rfl, rfl⟩
      case round =>
        obtain ⟨m, n2, hm, rfl, rfl⟩ := hrel
        have f0 := e1 n2
        by_cases hlt2 : m < x.length
        · obtain ⟨c, hc⟩ : ∃ c, x[m]? = some c := ⟨_, List.getElem?_eq_getElem hlt2⟩
          have hcn : c ≠ 10 := fun e => HNO.out (by rw [← e]; exact List.mem_of_getElem? hc)
          have x0 := fun w => run_idx (P := Tryd.prog) Tryd.underlying9 ⟨x.toArray⟩ m c hc (m : Int) rfl .i64 w
          have hc10 : ((c.toNat : Int) == 10) = false := by
            rw [beq_eq_false_iff_ne]; intro e; exact hcn (UInt8.toNat_inj.1 (by simpa using (by omega : c.toNat = 10)))
          have hc256 := UInt8.toNat_lt c
          clear hcn hc
          go_wp2_with fail
          go_roundw
          case rel => exact ⟨m + 1, n2, by omega, by go_num, rfl⟩
          case measure => simp [intOf]; omega
        · clear hxs
          go_wp2_with fail
          go_roundw
          case rel => exact ⟨k + 1, n2, by omega, by go_num, rfl, by rw [HJT.out, show (#[10] : Array UInt8) = [10].toArray from rfl, str_app, str_app]⟩
          case measure => simp [intOf]; omega
    · have hbk : (⟨(joinL (L.take k)).toArray⟩ : ByteArray) = s := by
        rw [List.take_of_length_le (by omega), HJ.out]
      rw [hbk]
      clear hbk
      clear L1 L2 L3 HN HJ
      have BW : Below w3.heap.size w3 ((w3.drewN n).alloc (.cells #[] 9)) := (below_drewN (Below.refl _ _) n).alloc (Nat.le_refl _) (.cells #[] 9)
      have HBW := Lib.hid BW
      have T1c := Lib.hid (T1b.out.below BW)
      have hbel := Lib.hid (below_trans (below_trans b1 b2) b3)
      have hown : TextsOwn w3.heap.size ((w3.drewN n).alloc (.cells #[] 9)) (.slice (some ⟨w3.heap.size, 0, none⟩) 0 0) [] := World.ownsRow_lit (w3.drewN n) #[] 0 (Nat.le_refl _) (by decide) rfl
      have hbase : w3.heap.size ≤ ((w3.drewN n).alloc (.cells #[] 9)).heap.size := by simp
      have hlen : ([] : List (List UInt8)).length + L.length ≤ 1048576 := by simp; omega
      have HO := Lib.hid hown
      have HBA := Lib.hid hbase
      have HLN := Lib.hid hlen
      have hlm : L.length + M.length ≤ 1048576 := by omega
      have HLM := Lib.hid hlm
      clear hown hbase hlen BW hlm
      go_wp2_with (at_builtin; go_loud (refine wpList_append_texts (by go_simp) _ _ rfl rfl _ w3.heap.size w.heap.size (.slice (some ⟨w3.heap.size, 0, none⟩) 0 0) (.slice c1 L.length a1) [] L (by go_simp) (by go_simp) HO.out T1c.out HLN.out HBA.out ?_))
      intro va wa howna growa
      have BWa := HBW.out.grown growa HBA.out (fun j hj => (HO.out.lt j hj).1)
      have T2c := Lib.hid (T23.out.below BWa)
      have T3c := Lib.hid (T3.out.below BWa)
      have HOa := Lib.hid howna
      have HBWa := Lib.hid BWa
      have hba : w3.heap.size ≤ wa.heap.size := BWa.size
      have HBb := Lib.hid hba
      clear howna growa BWa hba
      go_wp2_with (at_builtin; go_loud (refine wpList_append_texts (by go_simp) _ _ rfl rfl _ w3.heap.size w1.heap.size va v2 L M (by go_simp) (by go_simp) HOa.out T2c.out HLM.out HBb.out ?_))
      intro vb wb hownb growb
      have BWb := HBWa.out.grown growb HBb.out (fun j hj => (HOa.out.lt j hj).1)
      have T3d := Lib.hid (T3.out.below BWb)
      have HOb := Lib.hid hownb
      have HBWb := Lib.hid BWb
      have B4 := Lib.hid (B3.out.below BWb)
      clear hownb growb BWb
      have hll : (L ++ M).length ≤ 9223372036854775807 := by have := HLM.out; rw [List.length_append]; omega
      have HLL := Lib.hid hll
      clear hll
      go_wp2_with fail
      refine (sameTexts_any _ _ _ (L ++ M) (L ++ M) T3d.out.in_ HOb.out.in_ HLL.out HLL.out).mono ?_
      rintro e w5 ⟨rfl, n5, rfl⟩
      have b5 : Below wb.heap.size wb (wb.drewN n5) := below_drewN (Below.refl _ _) n5
      rw [decide_eq_true (rfl : L ++ M = L ++ M)]
      have B5 := Lib.hid (B4.out.below b5)
      go_wp2_with fail
      refine (alive_any S _ B5.out).mono ?_
      rintro e w6 ⟨rfl, b6⟩
      go_wp2_with fail
      go_ret
      exact ⟨rfl, below_trans (below_trans (below_trans hbel.out HBWb.out) b5) b6⟩
end Go.Proofs.YtobnlnkmonaohaaDoor
