/-
  What TopForgedBatch asks of the answer: other, broken, forgery by their contracts.
-/
import Derived.Test.YthcccgbodceeeaaDoorFForgeP
import Derived.Test.YthcccgbodceeeaaDoorFVerify
namespace Go.Proofs.YthcccgbodceeeaaDoor
open Go.RowKit

theorem run_hash_equal (a b : List UInt8) (ha : a.length = 32) (hb : b.length = 32) (w : World) :
    (Op.equalIn 10000 33 (.agg (Lib.byteCells a).toArray) (.agg (Lib.byteCells b).toArray)).run Tryd.prog w = .ok (decide (a = b)) w := by
  obtain ⟨e, hu, rfl⟩ := hashDesc
  obtain ⟨i, hi⟩ := Option.isSome_iff_exists.1 u8_infoT
  rw [show (10000 : Nat) = 9998 + 1 + 1 from rfl, run_equalIn_array w (9998 + 1) _ _ hu hi, u8_cellsT, run_itemsX 9998 a b w _ (fun j hj => by rw [ha, hb]; exact ⟨List.mem_range.1 hj, List.mem_range.1 hj⟩), all_range_eq a b ha hb]
/-- sha.Sum of one text. -/
theorem sha_one (s : ByteArray) (hs : (bs s).length ≤ 4611686018427387000) (g cap : Nat) (W : World) (hg : ∃ t fr, W.heap[g]? = some (.cells #[.string s] t fr)) (htab : TabSha W) (hgB : 5 < W.heap.size) :
    Calls Tryd.prog 24 #[.slice (some ⟨g, 0, none⟩) 1 cap] W fun e w' => e = .returned (.agg (Lib.byteCells (shaL (bs s))).toArray) ∧ Below W.heap.size W w' := by
  obtain ⟨t, fr, hg⟩ := hg
  have hc : catL [s] = bs s := by simp [catL, bs]
  have h := shaSum_any [s] g 0 cap W (fun j v hv => by
    rw [Nat.zero_add]
    exact cell_of hg j (by rw [List.getElem?_toArray]; exact hv)) (fun _ => lt_of_heap hg) htab hgB (show 1 ≤ 1000000 by decide) (by rw [hc]; exact hs)
  rw [hc] at h
  exact h
set_option maxHeartbeats 1000000 in
set_option maxRecDepth 100000 in
theorem broken_any (S : Nat → Addr) (x y : ByteArray) (w : World) (hF : FW S w) (hx : (bs x).length ≤ 4611686018427387000) (hy : (bs y).length ≤ 4611686018427387000) (hne : bs x ≠ bs y) (he : shaL (bs x) = shaL (bs y)) :
    Calls Tryd.prog 26 #[.string x, .string y] w fun e w' => e = .returned (.bool true) ∧ Below w.heap.size w w' := by
  obtain ⟨T, hT⟩ : ∃ T, shaL (bs x) = T := ⟨_, rfl⟩
  have HTL := Lib.hid (show T.length = 32 by rw [← hT]; exact shaL_len _)
  have HS := Lib.hid fun (s : ByteArray) (hs : (bs s).length ≤ 4611686018427387000 ∧ shaL (bs s) = T) (W : World) (hb : Below w.heap.size w W) => (by
    have hf := hF.below (hb.alloc hb.size (.cells #[.string s] 9))
    have h := sha_one s hs.1 W.heap.size 1 (W.alloc (.cells #[.string s] 9)) ⟨_, _, heap_one W _⟩ hf.tab hf.lt
    rw [hs.2] at h
    exact h : Calls Tryd.prog 24 #[.slice (some ⟨W.heap.size, 0, none⟩) 1 1] (W.alloc (.cells #[.string s] 9)) fun e w' => e = .returned (.agg (Lib.byteCells T).toArray) ∧ Below (W.alloc (.cells #[.string s] 9)).heap.size (W.alloc (.cells #[.string s] 9)) w')
  have HX := Lib.hid (show (bs x).length ≤ 4611686018427387000 ∧ shaL (bs x) = T from ⟨hx, hT⟩)
  have HY := Lib.hid (show (bs y).length ≤ 4611686018427387000 ∧ shaL (bs y) = T from ⟨hy, by rw [← he]; exact hT⟩)
  have hxy : (x.toList == y.toList) = false := by
    rw [ByteArray.toList_eq, ByteArray.toList_eq]
    exact beq_eq_false_iff_ne.2 hne
  have HB0 := Lib.hid (Below.refl w.heap.size w)
  clear hF hx hy hne he hT
  go_enter Tryd.func26, Tryd.ntmps26
  go_wp2_with (go_at_call 24; refine (HS.out x HX.out _ HB0.out).mono ?_)
  first
    | rintro e w1 rfl hb1
    | rintro e w1 ⟨rfl, hb1⟩
  have HB1 := Lib.hid ((below_one w (.cells #[.string x] 9)).trans (hb1.mono (by simp)))
  clear hb1
  go_wp2_with (go_at_call 24; refine (HS.out y HY.out _ HB1.out).mono ?_)
  first
    | rintro e w2 rfl hb2
    | rintro e w2 ⟨rfl, hb2⟩
  have HB2 := Lib.hid (HB1.out.trans (((below_one w1 (.cells #[.string y] 9)).trans (hb2.mono (by simp))).mono HB1.out.size))
  clear hb2
  go_wp2_with (refine wpList_hashEq2 (by rfl) (.tmp 11) (.tmp 14) _ (by rfl) T T (by rfl) (by rfl) HTL.out HTL.out true (decide_eq_true rfl).symm ?_)
  go_ret
  exact ⟨rfl, HB2.out⟩
/-- What other tells. -/
def OtherRel (w : World) (ls fs : List ByteArray) (B : Nat) (iv : Value) (wr : World) : Prop :=
  ∃ i : Nat, i ≤ fs.length ∧ iv = .int .i64 (i : Int) ∧ sameB ls B fs i = true ∧ Below w.heap.size w wr
theorem sameB_mono (ls : List ByteArray) (B : Nat) (fs : List ByteArray) (i : Nat) (h : sameB ls B fs i = false) : ∀ n, i ≤ n → sameB ls B fs n = false
  | n, hn => by
    rcases Nat.lt_or_ge i n with hl | hl
    · cases n with
      | zero => omega
      | succ n =>
        rw [sameB, sameB_mono ls B fs i h n (by omega)]
        rfl
    · rwa [show n = i by omega]
set_option maxHeartbeats 1000000 in
set_option maxRecDepth 100000 in
theorem other_any (S : Nat → Addr) (lb B : Nat) (ls fs : List ByteArray) (u : Value) (w : World) (hF : FW S w) (hL : LogAt w lb ls) (hl4 : ls.length ≤ 400) (hu : StrsIn w u fs) (hn4 : fs.length ≤ 400) :
    Calls Tryd.prog 10 #[.pointer (some ⟨lb, 0, none⟩), .int .u64 (B : Int), u] w fun x w' => x = .returned (.bool (!(sameB ls B fs fs.length))) ∧ Below w.heap.size w w' := by
  obtain ⟨ao, cap, rfl, hr⟩ := hu
  have HF := Lib.hid hF
  have HL := Lib.hid hL
  have HR := Lib.hid hr
  have HB0 := Lib.hid (Below.refl w.heap.size w)
  clear hF hL hr
  go_enter Tryd.func10, Tryd.ntmps10
  go_wp2_with fail
  go_loopw [7] (fun iv wr => OtherRel w ls fs B iv wr) (fun iv _ => fs.length - (intOf iv).toNat)
  case atStart => exact ⟨0, Nat.zero_le _, rfl, rfl, HB0.out⟩
  case round =>
    obtain ⟨i, hin, rfl, hsm, hbel⟩ := hrel
    rename World => wA
    have HBL := Lib.hid hbel
    by_cases hi' : i < fs.length
    · have i1 : (i : Int) < (fs.length : Int) := by omega
      have i0' : (0 : Int) ≤ (i : Int) := by omega
      obtain ⟨s, hs⟩ : ∃ s, fs[i]? = some s := ⟨_, List.getElem?_eq_getElem hi'⟩
      obtain ⟨g, o, rfl, hrow⟩ := HR.out (fun e => by rw [e] at hi'; simp at hi')
      have ci : wA.cell? ⟨g, o + i, none⟩ = some (.string s) := below_cell hbel (hrow i (.string s) (by rw [List.getElem?_map, hs]; rfl))
      obtain ⟨j, hj⟩ : ∃ j, jAt B i = j := ⟨_, rfl⟩
      have hw : IntKind.u64.wrap ((B : Int) + (i : Int)) = (j : Int) := by
        rw [← hj, IntKind.wrap_u64]
        unfold jAt
        omega
      have hok : okAt ls B fs i = (decide (j < ls.length) && decide (ls.getD j ⟨#[]⟩ = s)) := by
        rw [okAt, hj, show fs.getD i ⟨#[]⟩ = s by rw [List.getD_eq_getElem?_getD, hs]; rfl]
      have HSB := Lib.hid (show sameB ls B fs (i + 1) = (decide (j < ls.length) && decide (ls.getD j ⟨#[]⟩ = s)) by
        rw [sameB, hsm, hok, Bool.true_and])
      clear hbel hj hs hrow hok hsm
      by_cases hjl : j < ls.length
      · obtain ⟨y, hy⟩ : ∃ y, ls.getD j ⟨#[]⟩ = y := ⟨_, rfl⟩
        rw [hy, decide_eq_true hjl, Bool.true_and] at HSB
        have HLJ := Lib.hid (by
          have h := leaf_log S lb ls j wA (HL.out.below HBL.out) (by omega) (HF.out.below HBL.out)
          rw [if_pos hjl, hy] at h
          exact h : Calls Tryd.prog 18 #[.pointer (some ⟨lb, 0, none⟩), .int .u64 (j : Int)] wA fun e w' => e = .returned (.tuple #[.string y, .nilIface]) ∧ Below wA.heap.size wA w')
        clear hy
        by_cases hsy : y = s
        · have hyy : (y.toList == s.toList) = true := by rw [hsy]; exact beq_self_eq_true _
          rw [decide_eq_true hsy] at HSB
          clear hsy
          go_wp2_with (go_at_call 18; refine HLJ.out.mono ?_)
          first
            | rintro x wC rfl hbC
            | rintro x wC ⟨rfl, hbC⟩
          have ci2 : wC.cell? ⟨g, o + i, none⟩ = some (.string s) := below_cell hbC ci
          have HBC := Lib.hid (HBL.out.trans (hbC.mono HBL.out.size))
          clear hbC
          go_wp2_with fail
          exact ⟨⟨i + 1, hi', by go_num, HSB.out, HBC.out⟩, by simp [intOf]; omega⟩
        · have hyy : (y.toList == s.toList) = false := by
            rw [ByteArray.toList_eq, ByteArray.toList_eq]
            exact beq_eq_false_iff_ne.2 fun h => hsy (bs_inj h)
          rw [decide_eq_false hsy] at HSB
          have HEND := Lib.hid (sameB_mono ls B fs (i + 1) HSB.out fs.length hi')
          clear hsy
          go_wp2_with (go_at_call 18; refine HLJ.out.mono ?_)
          first
            | rintro x wC rfl hbC
            | rintro x wC ⟨rfl, hbC⟩
          have ci2 : wC.cell? ⟨g, o + i, none⟩ = some (.string s) := below_cell hbC ci
          have HBC := Lib.hid (HBL.out.trans (hbC.mono HBL.out.size))
          clear hbC
          go_wp2_with fail
          go_ret
          exact ⟨by rw [HEND.out]; rfl, HBC.out⟩
      · rw [decide_eq_false hjl, Bool.false_and] at HSB
        have HEND := Lib.hid (sameB_mono ls B fs (i + 1) HSB.out fs.length hi')
        have HLJ := Lib.hid (by
          have h := leaf_log S lb ls j wA (HL.out.below HBL.out) (by omega) (HF.out.below HBL.out)
          rw [if_neg hjl] at h
          exact h : Calls Tryd.prog 18 #[.pointer (some ⟨lb, 0, none⟩), .int .u64 (j : Int)] wA fun e w' => e = .returned (.tuple #[.string ⟨#[]⟩, .iface 125 (.pointer (some (S 3)))]) ∧ Below wA.heap.size wA w')
        go_wp2_with (go_at_call 18; refine HLJ.out.mono ?_)
        first
          | rintro x wC rfl hbC
          | rintro x wC ⟨rfl, hbC⟩
        have HBC := Lib.hid (HBL.out.trans (hbC.mono HBL.out.size))
        clear hbC
        go_wp2_with fail
        go_ret
        exact ⟨by rw [HEND.out]; rfl, HBC.out⟩
    · obtain rfl : i = fs.length := by omega
      have i1 : ¬ (fs.length : Int) < (fs.length : Int) := by omega
      have HEND := Lib.hid hsm
      clear hsm
      go_wp2_with fail
      go_ret
      exact ⟨by rw [HEND.out]; rfl, HBL.out⟩
set_option maxHeartbeats 1000000 in
set_option maxRecDepth 100000 in
theorem forgery_wrong (S : Nat → Addr) (x y : ByteArray) (so : Bool) (T : List UInt8) (w : World) (hF : FW S w) (hT : T.length = 32) (hx : (bs x).length ≤ 4611686018427387000) (hy : (bs y).length ≤ 4611686018427387000) (hne : bs x ≠ bs y) (he : shaL (bs x) = shaL (bs y)) :
    Calls Tryd.prog 11 #[.string x, .string y, .bool true, .bool true, .bool so, .agg (Lib.byteCells T).toArray] w fun e w' => e = .returned (.bool true) ∧ Below w.heap.size w w' := by
  have hbo := below_one w (.cells (Lib.byteCells T).toArray 33)
  have HBR := Lib.hid (broken_any S x y (w.alloc (.cells (Lib.byteCells T).toArray 33)) (hF.below hbo) hx hy hne he)
  have HBO := Lib.hid hbo
  have HTL := Lib.hid hT
  clear hF hT hx hy hne he hbo
  go_enter Tryd.func11, Tryd.ntmps11
  go_upto_region 1 with fail
  generalize (w.alloc (.cells (Lib.byteCells T).toArray 33)) = wo at *
  go_wp2_with (go_at_call 26; refine HBR.out.mono ?_)
  first
    | rintro e w1 rfl hb1
    | rintro e w1 ⟨rfl, hb1⟩
  have HB1 := Lib.hid (HBO.out.trans (hb1.mono HBO.out.size))
  clear hb1
  go_wp2_with fail
  go_ret
  exact ⟨rfl, HB1.out⟩
set_option maxHeartbeats 1000000 in
set_option maxRecDepth 100000 in
theorem forgery_none (T : List UInt8) (w : World) (hT : T.length = 32) :
    Calls Tryd.prog 11 #[.string ⟨#[]⟩, .string ⟨#[]⟩, .bool false, .bool false, .bool false, .agg (Lib.byteCells T).toArray] w fun e w' => e = .returned (.bool true) ∧ Below w.heap.size w w' := by
  have HBO := Lib.hid (below_one w (.cells (Lib.byteCells T).toArray 33))
  have HTL := Lib.hid hT
  have hee : (ByteArray.toList ⟨#[]⟩ == ByteArray.toList ⟨#[]⟩) = true := beq_self_eq_true _
  clear hT
  go_enter Tryd.func11, Tryd.ntmps11
  go_upto_region 1 with fail
  generalize (w.alloc (.cells (Lib.byteCells T).toArray 33)) = wo at *
  go_wp2_with fail
  go_ret
  exact ⟨rfl, HBO.out⟩
set_option maxHeartbeats 1000000 in
set_option maxRecDepth 100000 in
theorem forgery_so (S : Nat → Addr) (x : ByteArray) (T : List UInt8) (w : World) (hF : FW S w) (hT : T.length = 32) (hx : (bs x).length ≤ 4611686018427387000) (he : shaL (bs x) = T) :
    Calls Tryd.prog 11 #[.string x, .string x, .bool false, .bool false, .bool true, .agg (Lib.byteCells T).toArray] w fun e w' => e = .returned (.bool true) ∧ Below w.heap.size w w' := by
  have HWO := Lib.hid (heap_one w (.cells (Lib.byteCells T).toArray 33))
  have HS := Lib.hid fun (W : World) (hb : Below w.heap.size w W) => (by
    have hf := hF.below (hb.alloc hb.size (.cells #[.string x] 9)).drew
    have h := sha_one x hx W.heap.size 1 (W.alloc (.cells #[.string x] 9)).drew ⟨_, _, below_heap ((Below.refl (W.alloc (.cells #[.string x] 9)).heap.size _).drew) (heap_one W _)⟩ hf.tab hf.lt
    rw [he] at h
    exact h : Calls Tryd.prog 24 #[.slice (some ⟨W.heap.size, 0, none⟩) 1 1] (W.alloc (.cells #[.string x] 9)).drew fun e w' => e = .returned (.agg (Lib.byteCells T).toArray) ∧ Below (W.alloc (.cells #[.string x] 9)).drew.heap.size (W.alloc (.cells #[.string x] 9)).drew w')
  have HBO := Lib.hid (below_one w (.cells (Lib.byteCells T).toArray 33))
  have HTL := Lib.hid hT
  have hee : (x.toList == x.toList) = true := beq_self_eq_true _
  clear hF hT hx he
  go_enter Tryd.func11, Tryd.ntmps11
  go_upto_region 1 with fail
  generalize (w.alloc (.cells (Lib.byteCells T).toArray 33)) = wo at *
  go_wp2_with fail
  have hw0 := HWO.out
  have hb0 := HBO.out
  have heq : ∀ W, (Op.equalIn 10000 33 (.agg (Lib.byteCells T).toArray) (.agg (Lib.byteCells T).toArray)).run Tryd.prog W = .ok true W := fun W => by rw [run_hash_equal T T HTL.out HTL.out W, decide_eq_true rfl]
  have hund := Tryd.underlying33
  have hinf : (Tryd.prog.info? 33).map (fun x => x.size) = some (Lib.byteCells T).length := by rw [Lib.byteCells_length, HTL.out]; exact hashInfo
  have HK := Lib.hid (fun (W' : World) (hb : Below wo.heap.size wo W') => (⟨hb, range_row (below_heap hb hw0)⟩ : Below wo.heap.size wo W' ∧ W'.rangeAt w.heap.size 0 (Lib.byteCells T)))
  clear hw0 hb0
  go_region_held3? (fun W' => Below wo.heap.size wo W' ∧ W'.rangeAt w.heap.size 0 (Lib.byteCells T))
    (first | exact HK.out _ (below_drewN (Below.refl _ _) 1) | exact HK.out _ (below_one wo _).drew | exact HK.out _ hb3)
    (first
      | (go_at_call 24; refine (HS.out wo HBO.out).mono ?_; rintro e w1 ⟨rfl, b1⟩; have hb3 : Below wo.heap.size wo w1 := (below_one wo _).drew.trans (b1.mono (below_one wo _).drew.size)))
  all_goals (go_wp2_with fail; go_ret; exact ⟨rfl, HBO.out.trans (hb3.mono HBO.out.size)⟩)
end Go.Proofs.YthcccgbodceeeaaDoor
