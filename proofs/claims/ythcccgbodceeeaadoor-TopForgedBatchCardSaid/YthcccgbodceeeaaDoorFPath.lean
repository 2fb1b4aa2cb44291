/-
  shape.Path of leaf 0 in a tree of two leaves.
-/
import Derived.Test.YthcccgbodceeeaaDoorFShape
import Derived.Test.YthcccgbodceeeaaDoorFWalk
namespace Go.Proofs.YthcccgbodceeeaaDoor
open Go.RowKit

set_option maxHeartbeats 1000000 in
set_option maxRecDepth 100000 in
theorem path_leaf (ki kd kl : Nat) (w : World) : Calls Tryd.prog 43 #[.agg #[.int .u64 0, .int .u64 1], .pointer (some ⟨ki, 0, none⟩), .pointer (some ⟨kd, 0, none⟩), .pointer (some ⟨kl, 0, none⟩)] w fun e w' => e = .returned (.tuple #[]) ∧ Below w.heap.size w w' := by
  go_enter Tryd.func43, Tryd.ntmps43
  go_upto_region 1 with fail
  have hwo := heap_one w (.cells #[.int .u64 0, .int .u64 1] 65)
  have hbo := below_one w (.cells #[.int .u64 0, .int .u64 1] 65)
  generalize w.alloc (.cells #[.int .u64 0, .int .u64 1] 65) = wo at *
  have c0 := cell_of hwo 0 rfl
  have c1 := cell_of hwo 1 rfl
  have HB := Lib.hid hbo
  clear hwo hbo
  go_wp2_with fail
  exact bodyPost_ret (results_none rfl _ _ _) rfl ⟨rfl, HB.out⟩
def PKPost (w : World) (x : Ending) (w' : World) : Prop := ∃ v, x = .returned (.tuple #[v, .nilIface]) ∧ SpIn w' v [(1, 2)] ∧ Below w.heap.size w w'
def PathPost (kl : Nat) (w : World) (x : Ending) (w' : World) : Prop :=
  x = .returned (.tuple #[]) ∧ ∃ v T fr, w'.heap[kl]? = some (.cells #[v] T fr) ∧ SpIn w' v [(1, 2)] ∧ AB kl kl w w'
set_option maxHeartbeats 1000000 in
set_option maxRecDepth 100000 in
theorem path_top (ki kd kl : Nat) (w : World) (ti td tl : TypeId) (fi fd : Nat × Nat) (hi : w.heap[ki]? = some (.cells #[.int .u64 0] ti fi)) (hd : w.heap[kd]? = some (.cells #[.func (.func 43) #[] #[.pointer (some ⟨ki, 0, none⟩), .pointer (some ⟨kd, 0, none⟩), .pointer (some ⟨kl, 0, none⟩)]] td fd)) (hl : w.heap[kl]? = some (.cells #[.slice none 0 0] tl (0, 0))) :
    Calls Tryd.prog 43 #[.agg #[.int .u64 0, .int .u64 2], .pointer (some ⟨ki, 0, none⟩), .pointer (some ⟨kd, 0, none⟩), .pointer (some ⟨kl, 0, none⟩)] w fun x w' => PathPost kl w x w' := by
  obtain ⟨i0, hinf, hz0, hz1, hz2⟩ := info_parts Tryd.infoSpan
  have hspl : spL (2 - 0) = 1 := by decide +kernel
  have HH := Lib.hid fun W => (by
    have h := halves_any 0 2 (by omega) (by omega) W
    rw [hspl] at h
    unfold spanV at h
    exact h : Calls Tryd.prog 32 #[.agg #[.int .u64 0, .int .u64 2]] W fun x w' => x = .returned (.tuple #[.agg #[.int .u64 0, .int .u64 1], .agg #[.int .u64 1, .int .u64 2]]) ∧ Below W.heap.size W w')
  have HI := Lib.hid hi
  have HD := Lib.hid hd
  have HL := Lib.hid hl
  clear hi hd hl hspl
  go_enter Tryd.func43, Tryd.ntmps43
  go_upto_region 1 with fail
  have hwo := heap_one w (.cells #[.int .u64 0, .int .u64 2] 65)
  have hbo := below_one w (.cells #[.int .u64 0, .int .u64 2] 65)
  generalize w.alloc (.cells #[.int .u64 0, .int .u64 2] 65) = wo at *
  have c0 := cell_of hwo 0 rfl
  have c1 := cell_of hwo 1 rfl
  have HBO := Lib.hid hbo
  clear hwo hbo
  go_upto_region 3 with (go_at_call 32; refine (HH.out _).mono ?_)
  first
    | rintro x w1 rfl hb1
    | rintro x w1 ⟨rfl, hb1⟩
  have HB1 := Lib.hid (HBO.out.trans (hb1.mono HBO.out.size))
  clear hb1 c0 c1
  go_upto_region 3 with fail
  have bl := below_one w1 (.cells #[.int .u64 0, .int .u64 1] 65)
  have br := below_one (w1.alloc (.cells #[.int .u64 0, .int .u64 1] 65)) (.cells #[.int .u64 1, .int .u64 2] 65)
  have d0 := below_cell br (cell_of (heap_one w1 (.cells #[.int .u64 0, .int .u64 1] 65)) 0 rfl)
  have d1 := below_cell br (cell_of (heap_one w1 (.cells #[.int .u64 0, .int .u64 1] 65)) 1 rfl)
  have hs1 : (w1.alloc (.cells #[.int .u64 0, .int .u64 1] 65)).heap.size = w1.heap.size + 1 := by simp
  have d2 := cell_of (heap_one (w1.alloc (.cells #[.int .u64 0, .int .u64 1] 65)) (.cells #[.int .u64 1, .int .u64 2] 65)) 0 rfl
  have d3 := cell_of (heap_one (w1.alloc (.cells #[.int .u64 0, .int .u64 1] 65)) (.cells #[.int .u64 1, .int .u64 2] 65)) 1 rfl
  rw [hs1] at d2 d3
  have b4 := bl.trans (br.mono (by omega))
  generalize ((w1.alloc (.cells #[.int .u64 0, .int .u64 1] 65)).alloc (.cells #[.int .u64 1, .int .u64 2] 65)) = w4 at *
  have HB4 := Lib.hid (HB1.out.trans (b4.mono HB1.out.size))
  clear bl br hs1 b4
  have hi4 := cell_of (below_heap HB4.out HI.out) 0 rfl
  have hd4 := cell_of (below_heap HB4.out HD.out) 0 rfl
  go_wp2_with (go_at_call 43; refine (path_leaf ki kd kl _).mono ?_)
  rintro x w5 ⟨rfl, hb5⟩
  have d2 := below_cell hb5 d2
  have d3 := below_cell hb5 d3
  have HB5 := Lib.hid (HB4.out.trans (hb5.mono HB4.out.size))
  have hl5 := cell_of (below_heap HB5.out HL.out) 0 rfl
  clear hb5 hi4 hd4 d0 d1
  go_wp2_with (at_builtin; refine wpList_append_own_at _ rfl _ _ 54 rfl w.heap.size 65 i0 (.agg #[.int .u64 0, .int .u64 0]) 2 16 Tryd.underlying54 hinf hz0 hz1 hz2 rfl (by decide) _ _ _ rfl (World.ownsRow_nil _ _ _ _) ⟨w5.heap.size, 0, none⟩ 1 1 [.int .u64 1, .int .u64 2] rfl rfl (fun j u hj => by rw [Addr.add_mid, Nat.zero_add]; exact cell_of (heap_one w5 _) j (by simpa using hj)) ?c2 ?c3 ?c4 ?c5 ?_)
  case c2 => first | rfl | exact ⟨rfl, rfl⟩ | (intro u hu; simp at hu; rcases hu with rfl | rfl <;> rfl)
  case c3 => unfold maxLen; omega
  case c4 => omega
  case c5 => have := HB5.out.size; first | omega | (simp; omega)
  intro v' w6 hown' hgrow _ hloc
  have hb6 : Below w.heap.size w w6 := (HB5.out.alloc HB5.out.size _).grown hgrow (by have := HB5.out.size; simp; omega) (fun j hj => by cases hj)
  have HL6 := Lib.hid (below_heap hb6 HL.out)
  have l0 := cell_of HL6.out 0 rfl
  have l1 := frozen_row HL6.out 0
  have HO6 := Lib.hid (show ∀ x, SpIn (w6.setCell ⟨kl, 0, none⟩ x) v' [(1, 2)] from fun x => by
    have hlt := lt_of_heap HL.out
    obtain ⟨_, ho⟩ := hown'
    rcases ho with ⟨_, hn⟩ | ⟨g, cap, cur, rfl, hge, hg, _, _, _, htk⟩
    · cases hn
    · refine ⟨_, cap, rfl, fun _ => ⟨g, rfl, fun j u hj => ?_⟩⟩
      rw [Nat.zero_add]
      have hg2 := (Below.heap_setCell w6 ⟨kl, 0, none⟩ x g (show g ≠ kl by omega)).trans hg
      refine cell_of hg2 j ?_
      have e1 : scells [(1, 2)] = [] ++ [.int .u64 1, .int .u64 2] := rfl
      rw [e1, List.nil_append, ← htk, List.getElem?_take] at hj
      split at hj
      · simpa using hj
      · cases hj)
  obtain ⟨ao2, cp2, rfl⟩ := owns_anyH hown'
  have HB6 := Lib.hid hb6
  clear hown' hgrow hloc hb6 hl5 d2 d3
  go_wp2_with fail
  go_end0
  exact ⟨rfl, _, tl, (0, 0), one_set HL6.out _, HO6.out _, (AB.of_below HB6.out).set ⟨kl, 0, none⟩ (.inl rfl) _⟩
set_option maxHeartbeats 1000000 in
set_option maxRecDepth 100000 in
theorem path_known (w : World) : Calls Tryd.prog 27 #[.int .u64 0, .int .u64 2] w fun x w' => PKPost w x w' := by
  go_enter Tryd.func27, Tryd.ntmps27
  go_upto_region 6 with fail
  obtain ⟨hA, hB, hC, hsz, hb3⟩ := three_blocks w #[.int .u64 0] #[.slice none 0 0] #[.func (.func 43) #[] #[.pointer (some ⟨w.heap.size, 0, none⟩), .pointer (some ⟨w.heap.size + 1 + 1, 0, none⟩), .pointer (some ⟨w.heap.size + 1, 0, none⟩)]] 23 54 93
  generalize ((w.alloc (.cells #[.int .u64 0] 23)).alloc (.cells #[.slice none 0 0] 54)).alloc (.cells #[.func (.func 43) #[] #[.pointer (some ⟨w.heap.size, 0, none⟩), .pointer (some ⟨w.heap.size + 1 + 1, 0, none⟩), .pointer (some ⟨w.heap.size + 1, 0, none⟩)]] 93) = w3 at *
  have HT := Lib.hid (path_top w.heap.size (w.heap.size + 1 + 1) (w.heap.size + 1) w3 _ _ _ _ _ hA hC hB)
  have c0 := cell_of hC 0 rfl
  have HB3 := Lib.hid hb3
  clear hA hB hC hsz hb3
  go_wp2_with (go_at_call 43; refine HT.out.mono ?_)
  rintro x w4 ⟨rfl, v, T, fr, hv, hsp, hab⟩
  have HSP := Lib.hid hsp
  have HBE := Lib.hid (hab.below HB3.out (by omega) (by omega))
  have d0 := cell_of hv 0 rfl
  clear hv hsp hab c0
  go_wp2_with fail
  go_ret2
  exact ⟨v, rfl, HSP.out, HBE.out⟩
end Go.Proofs.YthcccgbodceeeaaDoor
