/-
  tile.Hash by its contract: a whole subtree.
-/
import Derived.Test.YtlahdjdbbfjadaaGreatDoorSha7
import Derived.Test.YtlahdjdbbfjadaaGreatDoorTreeP
import Derived.Test.YtlahdjdbbfjadaaGreatDoorLaidT
import Derived.Deep.Upon
import Derived.Shelf.SlSortFuncK.RowK2
namespace Go.Proofs.YtlahdjdbbfjadaaGreatDoor
open Go.RowKit

def nodeF (a b : List UInt8) : List UInt8 := shaL (1 :: (a ++ b))
theorem nodeF_len (a b : List UInt8) : (nodeF a b).length = 32 := rfl
theorem and_pow (k : Nat) (h : k ≤ 8) : bits .and .i64 ((2 ^ k : Nat) : Int) (((2 ^ k : Nat) : Int) - 1) = 0 := by
  have : k = 0 ∨ k = 1 ∨ k = 2 ∨ k = 3 ∨ k = 4 ∨ k = 5 ∨ k = 6 ∨ k = 7 ∨ k = 8 := by omega
  rcases this with rfl | rfl | rfl | rfl | rfl | rfl | rfl | rfl | rfl <;> rfl
theorem ret_hashO {fn : Func} {u p : Tmp} (hf : fn.results = #[.cell p 70, .tmp u]) {Q : Ending → World → Prop} {a : Act} {w : World} (g : Nat) (cs : Array Value) (hi : (Tryz.prog.info? 70).map (·.size) = some cs.size) (v : Value)
    (hg : w.heap[g]? = some (.cells cs 70 (0, 0))) (hd : a.defers = []) (hp : a.tmps.getD p undef = .pointer (some ⟨g, 0, none⟩)) (hv : a.tmps.getD u undef = v) (hQ : Q (.returned (.tuple #[.agg cs, v])) w) : bodyPost Tryz.prog fn Q .ret a w := by
  refine bodyPost_ret (v := .tuple #[.agg cs, v]) ?_ hd hQ
  rw [← hv]
  exact results_row1 hf _ _ g 70 _ (0, 0) _ hp hg Tryz.underlying70 rfl hi
theorem range_app {w : World} {b o : Nat} {xs ys : List Value} (h1 : w.rangeAt b o xs) (h2 : w.rangeAt b (o + xs.length) ys) : w.rangeAt b o (xs ++ ys) := fun j v hv => by
  by_cases hj : j < xs.length
  · rw [List.getElem?_append_left hj] at hv
    exact h1 j v hv
  · rw [List.getElem?_append_right (by omega)] at hv
    have := h2 _ _ hv
    rwa [show o + xs.length + (j - xs.length) = o + j by omega] at this
theorem there_heap {w w' : World} {b o n : Nat} (h : w.there b o n) (hb : w'.heap[b]? = w.heap[b]?) : w'.there b o n := fun j hj => by
  have := h j hj
  unfold World.cell? World.frozen? at *
  simp only [hb]
  exact this
theorem below_setCells {B g : Nat} {w : World} (hg : B ≤ g) : ∀ (vs : List Value) (o : Nat) (w' : World), Below B w w' → Below B w (w'.setCells g o vs)
  | [], _, _, h => h
  | v :: r, o, w', h => below_setCells hg r (o + 1) (w'.setCell ⟨g, o, none⟩ v) (h.setCell (p := ⟨g, o, none⟩) hg v)
theorem own_row32 {B : Nat} {w : World} {e : TypeId} {n : Nat} {v : Value} {l : List UInt8} (h : w.ownsRow B e 32 v n (Lib.byteCells l)) (hn : 0 < n) : ∃ g cap, v = .slice (some ⟨g, 0, none⟩) n cap ∧ B ≤ g ∧ n ≤ cap ∧ w.rangeAt g 0 (Lib.byteCells l) ∧ w.there g 0 (32 * n) := by
  rcases h.2 with ⟨_, h1⟩ | ⟨g, cap, cur, rfl, hg, hh, hc, hm, hs, ht⟩
  · omega
  · refine ⟨g, cap, rfl, hg, hc, fun j v hv => ?_, fun j hj => ?_⟩
    · rw [Nat.zero_add]
      refine cell_of hh j ?_
      rw [← ht, List.getElem?_take] at hv
      split at hv
      · rw [← Array.getElem?_toList]
        exact hv
      · simp at hv
    · rw [Nat.zero_add]
      refine ⟨?_, frozen_row hh j⟩
      rw [cell_of hh j (v := cur[j]'(by rw [hs]; omega)) (Array.getElem?_eq_getElem (by rw [hs]; omega))]
      rfl
/-- A row of hashes being folded: node number i laid. -/
theorem fold_range {w : World} {g m i : Nat} {l : List UInt8} (hl : l.length = 32 * m) (him : i < m) (h : w.rangeAt g 0 (Lib.byteCells (foldAt nodeF l i))) (ht : w.there g 0 (32 * m)) :
    (w.setCells g (32 * i) (Lib.byteCells (nodeF (hashAt l (2 * i)) (hashAt l (2 * i + 1))))).rangeAt g 0 (Lib.byteCells (foldAt nodeF l (i + 1))) := by
  have hf := foldAt_len (N := nodeF) nodeF_len hl i (by omega)
  rw [← foldAt_next nodeF_len, ← byteCells_app, ← byteCells_app]
  have hx : (Lib.byteCells (nodeF (hashAt l (2 * i)) (hashAt l (2 * i + 1)))).length = 32 := by rw [Lib.byteCells_length, nodeF_len]
  have hh : (Lib.byteCells ((foldAt nodeF l i).take (32 * i))).length = 32 * i := by rw [Lib.byteCells_length, List.length_take, hf]; omega
  refine range_app (range_app ?_ ?_) ?_
  · refine World.rangeAt_setCells_apart ?_ _ _ _ (.inr (.inl (by rw [hh]; omega)))
    have := range_part h 0 (32 * i)
    rwa [List.drop_zero] at this
  · rw [hh, Nat.zero_add]
    refine World.rangeAt_setCells_same _ _ _ _ (fun j hj => ?_)
    have := ht (32 * i + j) (by omega)
    rwa [Nat.zero_add] at this
  · rw [List.length_append, hh, hx]
    refine World.rangeAt_setCells_apart ?_ _ _ _ (.inr (.inr (by rw [hx]; omega)))
    have := range_part h (32 * (i + 1)) (32 * m)
    rw [List.take_of_length_le (by rw [List.length_drop, hf]; omega)] at this
    rwa [show 0 + 32 * (i + 1) = 0 + (32 * i + 32) by omega] at this
set_option maxHeartbeats 4000000 in
set_option maxRecDepth 100000 in
theorem hash_ok (k at' n cap g o : Nat) (l : List UInt8) (w : World) (hl : l.length = 32 * n) (hr : w.rangeAt g o (Lib.byteCells l)) (hgw : g < w.heap.size) (hcap : n ≤ cap) (hn : n ≤ 256) (hk : k ≤ 8) (hm : at' % 2 ^ k = 0) (hat : at' + 2 ^ k ≤ n) (htab : TabSha w) (hgB : 17 < w.heap.size) :
    Calls Tryz.prog 23 #[.slice (some ⟨g, o, none⟩) n cap, .int .i64 (at' : Int), .int .i64 ((2 ^ k : Nat) : Int)] w fun e w' => e = .returned (.tuple #[.agg (Lib.byteCells (treeL nodeF k ((l.drop (32 * at')).take (32 * 2 ^ k)))).toArray, .nilIface]) ∧ Below w.heap.size w w' := by
  have hand := and_pow k hk
  obtain ⟨c, hc⟩ : ∃ c, 2 ^ k = c := ⟨_, rfl⟩
  rw [hc] at hand hm hat ⊢
  obtain ⟨sub, hsub⟩ : ∃ sub, (l.drop (32 * at')).take (32 * c) = sub := ⟨_, rfl⟩
  have hsl : sub.length = 32 * c := by rw [← hsub, List.length_take, List.length_drop, hl]; omega
  rw [hsub]
  obtain ⟨T, hT⟩ : ∃ T, treeL nodeF k sub = T := ⟨_, rfl⟩
  rw [hT]
  have HT := Lib.hid hT
  have HSUB := Lib.hid hsub
  clear hsub hT
  have hc1 : 1 ≤ c := by rw [← hc]; exact Nat.one_le_two_pow
  have HC := Lib.hid hc
  have HTB := Lib.hid htab
  have HBB := Lib.hid hgB
  have HR := Lib.hid hr
  have hmi : (at' : Int) % (c : Int) = 0 := by omega
  have f1 : ¬ (256 : Int) < (n : Int) := by omega
  have f2 : ¬ (c : Int) < 1 := by omega
  have f3 : ¬ (256 : Int) < (c : Int) := by omega
  have f4 : ¬ (at' : Int) < 0 := by omega
  have f5 : ¬ (n : Int) - (c : Int) < (at' : Int) := by omega
  clear hc htab hgB hr
  obtain ⟨z32, hz32⟩ : ∃ z, (#[.int .u8 0, .int .u8 0, .int .u8 0, .int .u8 0, .int .u8 0, .int .u8 0, .int .u8 0, .int .u8 0, .int .u8 0, .int .u8 0, .int .u8 0, .int .u8 0, .int .u8 0, .int .u8 0, .int .u8 0, .int .u8 0, .int .u8 0, .int .u8 0, .int .u8 0, .int .u8 0, .int .u8 0, .int .u8 0, .int .u8 0, .int .u8 0, .int .u8 0, .int .u8 0, .int .u8 0, .int .u8 0, .int .u8 0, .int .u8 0, .int .u8 0, .int .u8 0] : Array Value) = z := ⟨_, rfl⟩
  go_enter Tryz.func23, Tryz.ntmps23
  go_upto_region 1 with fail
  have hzs : z32.size = 32 := by rw [← hz32]; rfl
  clear hz32
  have hwo := heap_one w (.cells z32 70)
  have hbo := below_one w (.cells z32 70)
  have hso : (w.alloc (.cells z32 70)).heap.size = w.heap.size + 1 := by simp
  generalize (w.alloc (.cells z32 70)) = wo at *
  have HWO := Lib.hid hwo
  have HBO := Lib.hid hbo
  have HSO := Lib.hid hso
  have HZS := Lib.hid hzs
  clear hwo hbo hso hzs
  go_upto_region 3 with fail
  clear hand hmi f1 f2 f3 f4 f5
  have k0 : (0 : Int) ≤ (at' : Int) := by omega
  have k1 : (at' : Int) ≤ (at' : Int) + (c : Int) := by omega
  have k2 : (at' : Int) + (c : Int) ≤ (cap : Int) := by omega
  have k3 : ((at' : Int) + (c : Int)).toNat = at' + c := by omega
  have k4 : at' + c - at' = c := by omega
  have k5 : ¬ cap - at' = 0 := by omega
  have k6 : (at' : Int) + (c : Int) ≤ 256 := by omega
  obtain ⟨i0, hi, hz⟩ := Option.map_eq_some_iff.1 infoHash
  simp only [Prod.mk.injEq] at hz
  obtain ⟨hz0, hz1, hz2⟩ := hz
  have hsr : wo.rangeAt g (o + at' * 32) (Lib.byteCells sub) := by
    rw [← HSUB.out, Nat.mul_comm at' 32]
    exact range_part (fun j v hv => below_cell' HBO.out hgw (HR.out j v hv)) (32 * at') (32 * c)
  go_wp2_with (at_builtin; refine wpList_append_own _ rfl _ _ 22 rfl wo.heap.size 70 i0 (.agg (Array.replicate 32 (.int .u8 0))) 32 32 Tryz.underlying22 hi hz0 hz1 hz2 rfl (by decide) _ _ _ rfl (World.ownsRow_nil _ _ _ _) ⟨g, o + at' * 32, none⟩ c (cap - at') (Lib.byteCells sub) rfl (by rw [Lib.byteCells_length, hsl, Nat.mul_comm]) (fun j u hj => by rw [Addr.add_mid]; exact hsr j u hj) (byteCells_one' _) ?c3 ?c4 ?c5 ?_)
  case c3 => unfold maxLen; omega
  case c4 => omega
  case c5 => exact Nat.le_refl _
  intro v' W5 g2 g3 g4
  have hb5 : Below wo.heap.size wo W5 := ⟨g3.os, g3.tape, g3.output, g3.size, fun j hj => g3.block j hj (fun e => by cases e)⟩
  have HG := Lib.hid g2
  have HB5 := Lib.hid hb5
  clear g2 g3 g4 hb5 k0 k1 k2 k3 k4 k5 k6 hsr
  obtain ⟨g5, vq, rfl, hE5, hcq, hrg, hth⟩ := own_row32 HG.out (by omega)
  have HE5 := Lib.hid hE5
  have HST := Lib.hid (show ∃ (j : Nat) (cur : List UInt8) (q : Nat), cur.length = 32 * 2 ^ j ∧ 2 ^ j ≤ 256 ∧ Value.slice (some ⟨g5, 0, none⟩) c vq = .slice (some ⟨g5, 0, none⟩) (2 ^ j) q ∧ 2 ^ j ≤ q ∧ treeL nodeF j cur = T ∧ W5.rangeAt g5 0 (Lib.byteCells cur) ∧ W5.there g5 0 (32 * 2 ^ j) ∧ Below wo.heap.size wo W5 from ⟨k, sub, vq, by rw [HC.out, hsl], by rw [HC.out]; omega, by rw [HC.out], by rw [HC.out]; exact hcq, HT.out, hrg, by rw [HC.out]; exact hth, HB5.out⟩)
  clear hE5 hcq hrg hth HG HB5
  go_wp2_with fail
  go_loopw [8] (fun v wx => ∃ (j : Nat) (cur : List UInt8) (q : Nat), cur.length = 32 * 2 ^ j ∧ 2 ^ j ≤ 256 ∧ v = .slice (some ⟨g5, 0, none⟩) (2 ^ j) q ∧ 2 ^ j ≤ q ∧ treeL nodeF j cur = T ∧ wx.rangeAt g5 0 (Lib.byteCells cur) ∧ wx.there g5 0 (32 * 2 ^ j) ∧ Below wo.heap.size wo wx) (fun v _ => sliceLen v)
  case atStart => exact HST.out
  case round =>
    obtain ⟨j, cur, q, hcl, hj9, rfl, hjq, htr, hrg, hth, hbel⟩ := hrel
    rename World => wA
    clear HST
    cases j with
    | zero =>
      have z1 : ¬ (1 : Int) < ((1 : Nat) : Int) := by decide
      have z2 : (0 : Int) < ((1 : Nat) : Int) := by decide
      have HRG := Lib.hid hrg
      have HBA := Lib.hid hbel
      have HTR := Lib.hid htr
      have hbel2 := hbel
      clear hrg hth hbel htr
      simp only [Nat.pow_zero] at hcl hj9 hjq ⊢
      have hct : cur = T := by
        have h := HTR.out
        unfold treeL hashAt at h
        rw [Nat.mul_zero, List.drop_zero, List.take_of_length_le (by omega)] at h
        exact h
      rw [hct] at HRG hcl
      have hTl : T.length = 32 := hcl
      have hTz : (Lib.byteCells T).length = 32 := by rw [Lib.byteCells_length]; exact hTl
      have hTy : (Lib.byteCells T).toArray.size = 32 := by rw [List.size_toArray]; exact hTz
      have HRW := Lib.hid ((hbel2.block w.heap.size (by rw [HSO.out]; exact Nat.lt_succ_self _)).trans HWO.out)
      have HFB := Lib.hid (HBO.out.trans (hbel2.mono (by have := HSO.out; omega)))
      clear hct HTR hbel2
      go_wp2_with (refine wpList_load_mid (by rfl) 70 (.tmp 86) (by rfl) g5 0 (by rfl) (Lib.byteCells T) _ HRG.out Tryz.underlying70 rfl (by rw [Lib.byteCells_length, hTl]; kernel_rfl) ?_)
      rw [store_hash T hTl HRW.out HZS.out]
      simp only [Result.andThen_ok]
      have HRE := Lib.hid (setRow_heap wA w.heap.size _ (Lib.byteCells T).toArray 70 (0, 0) HRW.out)
      have HBR := Lib.hid (below_setRow HFB.out (Nat.le_refl _) (Lib.byteCells T).toArray)
      generalize wA.setRow w.heap.size (Lib.byteCells T).toArray = wJ at *
      go_wp2_with fail
      exact ret_hashO rfl w.heap.size _ (by rw [List.size_toArray, Lib.byteCells_length, hTl]; kernel_rfl) .nilIface HRE.out rfl rfl rfl ⟨rfl, HBR.out⟩
    | succ j =>
      obtain ⟨mh, hmh⟩ : ∃ mh, 2 ^ j = mh := ⟨_, rfl⟩
      have h2 : 2 ^ (j + 1) = 2 * mh := by rw [Nat.pow_succ, hmh]; omega
      rw [h2] at hcl hj9 hjq hth ⊢
      have mh1 : 1 ≤ mh := by rw [← hmh]; exact Nat.one_le_two_pow
      have m1 : (1 : Int) < ((2 * mh : Nat) : Int) := by omega
      have HRG := Lib.hid hrg
      have HBA := Lib.hid hbel
      have HTR := Lib.hid htr
      have HTH := Lib.hid hth
      have HMH := Lib.hid hmh
      clear hrg hth hbel htr hmh h2
      go_wp2_with fail
      have hd57 : decide ((1 : Int) < 2 * (mh : Int)) = true := decide_eq_true (by omega)
      rw [hd57]
      clear hd57
      go_loopw [61] (fun vi wx => ∃ i : Nat, i ≤ mh ∧ vi = .int .i64 (i : Int) ∧ wx.rangeAt g5 0 (Lib.byteCells (foldAt nodeF cur i)) ∧ wx.there g5 0 (32 * (2 * mh)) ∧ Below wo.heap.size wo wx) (fun vi _ => mh - (intOf vi).toNat)
      case atStart => exact ⟨0, Nat.zero_le _, rfl, by rw [foldAt_zero]; exact HRG.out, HTH.out, HBA.out⟩
      case round =>
        obtain ⟨i, him, rfl, hrg, hth, hbel⟩ := hrel
        rename World => wI
        by_cases hi : i < mh
        · have i1 : (i : Int) < (mh : Int) := by omega
          have j0 : (0 : Int) ≤ 2 * (i : Int) := by omega
          have j1 : 2 * (i : Int) < ((2 * mh : Nat) : Int) := by omega
          have j2 : (2 * (i : Int)).toNat = 2 * i := by omega
          have j3 : (0 : Int) ≤ 2 * (i : Int) + 1 := by omega
          have j4 : 2 * (i : Int) + 1 < ((2 * mh : Nat) : Int) := by omega
          have j5 : (2 * (i : Int) + 1).toNat = 2 * i + 1 := by omega
          have j6 : (i : Int) < ((2 * mh : Nat) : Int) := by omega
          have j7 : IntKind.wrap .i64 (2 * (i : Int)) = 2 * (i : Int) := IntWalk.i64_in _ (by omega)
          have j8 : IntKind.wrap .i64 (2 * (i : Int) + 1) = 2 * (i : Int) + 1 := IntWalk.i64_in _ (by omega)
          have HRI := Lib.hid hrg
          have HL1 := Lib.hid (show (hashAt cur (2 * i)).length = 32 from hashAt_len (n := 2 * mh) hcl (by omega))
          have HL2 := Lib.hid (show (hashAt cur (2 * i + 1)).length = 32 from hashAt_len (n := 2 * mh) hcl (by omega))
          have HR1 := Lib.hid (show wI.drew.rangeAt g5 (2 * i * 32) (Lib.byteCells (hashAt cur (2 * i))) by
            have h := range_at hrg (2 * i)
            rw [Nat.zero_add, foldAt_get nodeF_len _ _ _ (by omega)] at h
            exact h)
          have HR2 := Lib.hid (show wI.drew.rangeAt g5 ((2 * i + 1) * 32) (Lib.byteCells (hashAt cur (2 * i + 1))) by
            have h := range_at hrg (2 * i + 1)
            rw [Nat.zero_add, foldAt_get nodeF_len _ _ _ (by omega)] at h
            exact h)
          have HND := Lib.hid (node_any (hashAt cur (2 * i)) (hashAt cur (2 * i + 1)) HL1.out HL2.out wI.drew (tab_bel HTB.out (HBO.out.trans (hbel.mono (by have := HSO.out; omega))).drew HBB.out) (by have h1 : wo.heap.size ≤ wI.drew.heap.size := hbel.size; have := HSO.out; have := HBB.out; omega))
          have HG5 := Lib.hid (show g5 < wI.heap.size by
            have h := (hth 0 (by omega)).1
            cases hq : wI.cell? ⟨g5, 0 + 0, none⟩ with
            | none => rw [hq] at h; cases h
            | some v => exact lt_of_cell hq)
          have j9 : (i : Int) < 2 * (mh : Int) := by omega
          have HTI := Lib.hid hth
          have HBI := Lib.hid hbel
          clear hrg hth hbel
          go_upto_region 8 with fail
          refine wp_region_any (by kernel_rfl) ?_
          change wpAny _ _ _ _ _ _ _ (World.drew _)
          refine wpAny_take (i := 0) (v := .slice (some ⟨g5, 0, none⟩) (2 * mh) q) rfl (by kernel_rfl) (by kernel_rfl) (by kernel_rfl) (fun _ _ _ h => h) (Or.inl ⟨by rfl, ?_⟩) ?_
          · intro w
            first
              | (go_simp; done)
              | (go_simp; intro hh; omega)
          simp only [List.getElem_toArray, List.getElem_cons_zero, Act.put, List.setIfInBounds_toArray, List.set_cons_zero, List.set_cons_succ]
          refine wpAny_take (i := 1) (v := .int .i64 (i : Int)) rfl (by kernel_rfl) (by kernel_rfl) (by kernel_rfl) (fun _ _ _ h => h) (Or.inl ⟨by rfl, ?_⟩) ?_
          · intro w
            first
              | (go_simp; done)
              | (go_simp; intro hh; omega)
          simp only [List.getElem_toArray, List.getElem_cons_succ, List.getElem_cons_zero, Act.put, List.setIfInBounds_toArray, List.set_cons_zero, List.set_cons_succ]
          refine wpAny_take (i := 2) (v := .slice (some ⟨g5, 0, none⟩) (2 * mh) q) rfl (by kernel_rfl) (by kernel_rfl) (by kernel_rfl) (fun _ _ _ h => h) (Or.inl ⟨by rfl, ?_⟩) ?_
          · intro w
            first
              | (go_simp; done)
              | (go_simp; intro hh; omega)
          simp only [List.getElem_toArray, List.getElem_cons_succ, List.getElem_cons_zero, Act.put, List.setIfInBounds_toArray, List.set_cons_zero, List.set_cons_succ]
          refine wpAny_take (i := 3) (v := .int .i64 (i : Int)) rfl (by kernel_rfl) (by kernel_rfl) (by kernel_rfl) (fun _ _ _ h => h) (Or.inl ⟨by rfl, ?_⟩) ?_
          · intro w
            first
              | (go_simp; done)
              | (go_simp; intro hh; omega)
          simp only [List.getElem_toArray, List.getElem_cons_succ, List.getElem_cons_zero, Act.put, List.setIfInBounds_toArray, List.set_cons_zero, List.set_cons_succ]
          refine wpAny_take (i := 4) (v := .int .i64 (2 * (i : Int))) rfl (by kernel_rfl) (by kernel_rfl) (by kernel_rfl) (fun _ _ _ h => h) (Or.inl ⟨by rfl, ?_⟩) ?_
          · intro w
            first
              | (go_simp; done)
              | (go_simp; intro hh; omega)
          simp only [List.getElem_toArray, List.getElem_cons_succ, List.getElem_cons_zero, Act.put, List.setIfInBounds_toArray, List.set_cons_zero, List.set_cons_succ]
          refine wpAny_take (i := 5) (v := .pointer (some ⟨g5, 2 * i * 32, none⟩)) rfl (by kernel_rfl) (by kernel_rfl) (by kernel_rfl) (fun _ _ _ h => h) (Or.inl ⟨by rfl, ?_⟩) ?_
          · intro w
            first
              | (go_simp; done)
              | (go_simp; intro hh; omega)
          simp only [List.getElem_toArray, List.getElem_cons_succ, List.getElem_cons_zero, Act.put, List.setIfInBounds_toArray, List.set_cons_zero, List.set_cons_succ]
          refine wpAny_take (i := 7) (v := .slice (some ⟨g5, 0, none⟩) (2 * mh) q) rfl (by kernel_rfl) (by kernel_rfl) (by kernel_rfl) (fun _ _ _ h => h) (Or.inl ⟨by rfl, ?_⟩) ?_
          · intro w
            first
              | (go_simp; done)
              | (go_simp; intro hh; omega)
          simp only [List.getElem_toArray, List.getElem_cons_succ, List.getElem_cons_zero, Act.put, List.setIfInBounds_toArray, List.set_cons_zero, List.set_cons_succ]
          refine wpAny_take (i := 8) (v := .int .i64 (i : Int)) rfl (by kernel_rfl) (by kernel_rfl) (by kernel_rfl) (fun _ _ _ h => h) (Or.inl ⟨by rfl, ?_⟩) ?_
          · intro w
            first
              | (go_simp; done)
              | (go_simp; intro hh; omega)
          simp only [List.getElem_toArray, List.getElem_cons_succ, List.getElem_cons_zero, Act.put, List.setIfInBounds_toArray, List.set_cons_zero, List.set_cons_succ]
          refine wpAny_take (i := 9) (v := .int .i64 (2 * (i : Int))) rfl (by kernel_rfl) (by kernel_rfl) (by kernel_rfl) (fun _ _ _ h => h) (Or.inl ⟨by rfl, ?_⟩) ?_
          · intro w
            first
              | (go_simp; done)
              | (go_simp; intro hh; omega)
          simp only [List.getElem_toArray, List.getElem_cons_succ, List.getElem_cons_zero, Act.put, List.setIfInBounds_toArray, List.set_cons_zero, List.set_cons_succ]
          refine wpAny_take (i := 10) (v := .int .i64 (2 * (i : Int) + 1)) rfl (by kernel_rfl) (by kernel_rfl) (by kernel_rfl) (fun _ _ _ h => h) (Or.inl ⟨by rfl, ?_⟩) ?_
          · intro w
            first
              | (go_simp; done)
              | (go_simp; intro hh; omega)
          simp only [List.getElem_toArray, List.getElem_cons_succ, List.getElem_cons_zero, Act.put, List.setIfInBounds_toArray, List.set_cons_zero, List.set_cons_succ]
          refine wpAny_take (i := 11) (v := .pointer (some ⟨g5, (2 * i + 1) * 32, none⟩)) rfl (by kernel_rfl) (by kernel_rfl) (by kernel_rfl) (fun _ _ _ h => h) (Or.inl ⟨by rfl, ?_⟩) ?_
          · intro w
            first
              | (go_simp; done)
              | (go_simp; intro hh; omega)
          simp only [List.getElem_toArray, List.getElem_cons_succ, List.getElem_cons_zero, Act.put, List.setIfInBounds_toArray, List.set_cons_zero, List.set_cons_succ]
          refine wpAny_ready (rs := [6, 12]) (by kernel_rfl) (by simp) ?_
          refine AllReady.cons rfl (fun K hK => ?_) (AllReady.cons rfl (fun K hK => ?_) AllReady.nil)
          · rw [if_pos (by rfl)]
            refine wp_load_mid 70 (.tmp 69) (by rfl) g5 (2 * i * 32) (by rfl) _ _ HR1.out Tryz.underlying70 rfl (by rw [Lib.byteCells_length, HL1.out]; kernel_rfl) ?_
            refine hK _ _ ?_
            clear hK K
            refine wpAny_ready (rs := [12]) (by kernel_rfl) (by simp) ?_
            refine AllReady.cons rfl (fun K hK => ?_) AllReady.nil
            rw [if_pos (by rfl)]
            refine wp_load_mid 70 (.tmp 75) (by rfl) g5 ((2 * i + 1) * 32) (by rfl) _ _ HR2.out Tryz.underlying70 rfl (by rw [Lib.byteCells_length, HL2.out]; kernel_rfl) ?_
            refine hK _ _ ?_
            clear hK K
            refine wpAny_ready (rs := [13]) (by kernel_rfl) (by simp) ?_
            refine AllReady.cons rfl (fun K hK => ?_) AllReady.nil
            go_simp
            refine HND.out.mono ?_
            rintro e wN ⟨rfl, hbN⟩
            dsimp only
            refine hK _ _ ?_
            clear hK K
            have hgN : wN.heap[g5]? = wI.heap[g5]? := hbN.block g5 HG5.out
            have HRN := Lib.hid (range_heap (w' := wN) HRI.out hgN)
            have HTN := Lib.hid (there_heap (w' := wN) HTI.out hgN)
            have HBN := Lib.hid (HBI.out.drew.trans (hbN.mono HBI.out.size))
            clear hbN hgN
            refine wpAny_ready (rs := [14]) (by kernel_rfl) (by simp) ?_
            refine AllReady.cons rfl (fun K hK => ?_) AllReady.nil
            go_simp
            refine hK _ _ ?_
            clear hK K
            refine wpAny_ready (rs := [15]) (by kernel_rfl) (by simp) ?_
            refine AllReady.cons rfl (fun K hK => ?_) AllReady.nil
            rw [if_pos (by rfl)]
            refine wp_store_mid 70 (.tmp 78) (.tmp 77) (by rfl) g5 (i * 32) (Lib.byteCells (nodeF (hashAt cur (2 * i)) (hashAt cur (2 * i + 1)))).toArray (by rfl) (by rfl) (fun y hy => ?_) (by rw [List.size_toArray, Lib.byteCells_length, nodeF_len]; kernel_rfl) (all_oneCell_toArray (byteCells_one' _)) ?_
            · have := HTN.out (i * 32 + y) (by rw [List.size_toArray, Lib.byteCells_length, nodeF_len] at hy; omega)
              rwa [Nat.zero_add] at this
            refine hK _ _ ?_
            clear hK K
            refine wpAny_done (by kernel_rfl) ?_ _
            simp only [Exit.inBlock, Exit.then]
            have HRE := Lib.hid (show (wN.setCells g5 (i * 32) (Lib.byteCells (nodeF (hashAt cur (2 * i)) (hashAt cur (2 * i + 1)))).toArray.toList).rangeAt g5 0 (Lib.byteCells (foldAt nodeF cur (i + 1))) by rw [Nat.mul_comm i 32]; exact fold_range hcl (by omega) HRN.out HTN.out)
            have HTE := Lib.hid (show (wN.setCells g5 (i * 32) (Lib.byteCells (nodeF (hashAt cur (2 * i)) (hashAt cur (2 * i + 1)))).toArray.toList).there g5 0 (32 * (2 * mh)) from World.there_setCells HTN.out g5 (i * 32) _)
            have HBE := Lib.hid (show Below wo.heap.size wo (wN.setCells g5 (i * 32) (Lib.byteCells (nodeF (hashAt cur (2 * i)) (hashAt cur (2 * i + 1)))).toArray.toList) from below_setCells HE5.out _ (i * 32) wN HBN.out)
            generalize (wN.setCells g5 (i * 32) (Lib.byteCells (nodeF (hashAt cur (2 * i)) (hashAt cur (2 * i + 1)))).toArray.toList) = wE at *
            go_wp2_with fail
            go_roundw
            case rel =>
              first
                | exact ⟨i + 1, hi, by go_num, HRE.out, HTE.out, HBE.out⟩
                | exact ⟨_, _, _, _, _, _, _, _, _, _, _, _, _, _, _, _, _, _, _, _, ⟨i + 1, hi, rfl, HRE.out, HTE.out, HBE.out⟩, rfl⟩
            case measure => simp [intOf]; omega
          · rw [if_pos (by rfl)]
            refine wp_load_mid 70 (.tmp 75) (by rfl) g5 ((2 * i + 1) * 32) (by rfl) _ _ HR2.out Tryz.underlying70 rfl (by rw [Lib.byteCells_length, HL2.out]; kernel_rfl) ?_
            refine hK _ _ ?_
            clear hK K
            refine wpAny_ready (rs := [6]) (by kernel_rfl) (by simp) ?_
            refine AllReady.cons rfl (fun K hK => ?_) AllReady.nil
            rw [if_pos (by rfl)]
            refine wp_load_mid 70 (.tmp 69) (by rfl) g5 (2 * i * 32) (by rfl) _ _ HR1.out Tryz.underlying70 rfl (by rw [Lib.byteCells_length, HL1.out]; kernel_rfl) ?_
            refine hK _ _ ?_
            clear hK K
            refine wpAny_ready (rs := [13]) (by kernel_rfl) (by simp) ?_
            refine AllReady.cons rfl (fun K hK => ?_) AllReady.nil
            go_simp
            refine HND.out.mono ?_
            rintro e wN ⟨rfl, hbN⟩
            dsimp only
            refine hK _ _ ?_
            clear hK K
            have hgN : wN.heap[g5]? = wI.heap[g5]? := hbN.block g5 HG5.out
            have HRN := Lib.hid (range_heap (w' := wN) HRI.out hgN)
            have HTN := Lib.hid (there_heap (w' := wN) HTI.out hgN)
            have HBN := Lib.hid (HBI.out.drew.trans (hbN.mono HBI.out.size))
            clear hbN hgN
            refine wpAny_ready (rs := [14]) (by kernel_rfl) (by simp) ?_
            refine AllReady.cons rfl (fun K hK => ?_) AllReady.nil
            go_simp
            refine hK _ _ ?_
            clear hK K
            refine wpAny_ready (rs := [15]) (by kernel_rfl) (by simp) ?_
            refine AllReady.cons rfl (fun K hK => ?_) AllReady.nil
            rw [if_pos (by rfl)]
            refine wp_store_mid 70 (.tmp 78) (.tmp 77) (by rfl) g5 (i * 32) (Lib.byteCells (nodeF (hashAt cur (2 * i)) (hashAt cur (2 * i + 1)))).toArray (by rfl) (by rfl) (fun y hy => ?_) (by rw [List.size_toArray, Lib.byteCells_length, nodeF_len]; kernel_rfl) (all_oneCell_toArray (byteCells_one' _)) ?_
            · have := HTN.out (i * 32 + y) (by rw [List.size_toArray, Lib.byteCells_length, nodeF_len] at hy; omega)
              rwa [Nat.zero_add] at this
            refine hK _ _ ?_
            clear hK K
            refine wpAny_done (by kernel_rfl) ?_ _
            simp only [Exit.inBlock, Exit.then]
            have HRE := Lib.hid (show (wN.setCells g5 (i * 32) (Lib.byteCells (nodeF (hashAt cur (2 * i)) (hashAt cur (2 * i + 1)))).toArray.toList).rangeAt g5 0 (Lib.byteCells (foldAt nodeF cur (i + 1))) by rw [Nat.mul_comm i 32]; exact fold_range hcl (by omega) HRN.out HTN.out)
            have HTE := Lib.hid (show (wN.setCells g5 (i * 32) (Lib.byteCells (nodeF (hashAt cur (2 * i)) (hashAt cur (2 * i + 1)))).toArray.toList).there g5 0 (32 * (2 * mh)) from World.there_setCells HTN.out g5 (i * 32) _)
            have HBE := Lib.hid (show Below wo.heap.size wo (wN.setCells g5 (i * 32) (Lib.byteCells (nodeF (hashAt cur (2 * i)) (hashAt cur (2 * i + 1)))).toArray.toList) from below_setCells HE5.out _ (i * 32) wN HBN.out)
            generalize (wN.setCells g5 (i * 32) (Lib.byteCells (nodeF (hashAt cur (2 * i)) (hashAt cur (2 * i + 1)))).toArray.toList) = wE at *
            go_wp2_with fail
            go_roundw
            case rel =>
              first
                | exact ⟨i + 1, hi, by go_num, HRE.out, HTE.out, HBE.out⟩
                | exact ⟨_, _, _, _, _, _, _, _, _, _, _, _, _, _, _, _, _, _, _, _, ⟨i + 1, hi, rfl, HRE.out, HTE.out, HBE.out⟩, rfl⟩
            case measure => simp [intOf]; omega
        · obtain rfl : mh = i := by omega
          have i1 : ¬ (mh : Int) < (mh : Int) := by omega
          have n0 : (mh : Int) ≤ (q : Int) := by omega
          have HTL := Lib.hid (show treeL nodeF j (lvl nodeF cur mh) = T by
            have h := tree_lvl (N := nodeF) nodeF_len j cur (by rw [hcl, Nat.pow_succ, HMH.out]; omega)
            rw [HMH.out] at h
            rw [← h]
            exact HTR.out)
          have HRI := Lib.hid (show wI.rangeAt g5 0 (Lib.byteCells (lvl nodeF cur mh)) by
            have h := range_part hrg 0 (32 * mh)
            rw [List.drop_zero] at h
            unfold foldAt at h
            rwa [List.take_left' (lvl_len nodeF_len cur mh)] at h)
          have HTI := Lib.hid (show wI.there g5 0 (32 * mh) from fun y hy => hth y (by omega))
          have HBI := Lib.hid hbel
          clear hrg hth hbel
          go_wp2_with fail
          refine ⟨⟨j, lvl nodeF cur mh, q, by rw [lvl_len nodeF_len, HMH.out], by rw [HMH.out]; omega, by rw [HMH.out], by rw [HMH.out]; omega, HTL.out, HRI.out, by rw [HMH.out]; exact HTI.out, HBI.out⟩, ?_⟩
          simp only [sliceLen]
          omega
end Go.Proofs.YtlahdjdbbfjadaaGreatDoor
