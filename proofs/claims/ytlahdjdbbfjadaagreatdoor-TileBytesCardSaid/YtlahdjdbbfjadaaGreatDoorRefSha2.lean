/-
  The document's SHA-256 (cartularyref04): turn and schedule by their contracts (printed by wip/mk_ref1.py out of XSha1's walk). The document's SHA-256 (cartularyref04): block by its contract.
-/
import Derived.Test.YtlahdjdbbfjadaaGreatDoorSha5
namespace Go.Proofs.YtlahdjdbbfjadaaGreatDoor
open Go.RowKit

theorem rturn_any (x n : Nat) (hx : x < 4294967296) (h1 : 1 ≤ n) (h2 : n ≤ 31) (w : World) :
    Calls Tryz.prog 199 #[.int .u32 (x : Int), .int .i64 (n : Int)] w fun e w' => e = .returned (.int .u32 ((rotN x n : Nat) : Int)) ∧ ∃ q, w' = w.drewN q := by
  have hd : ((x : Int) / 2 ^ n) = ((x / 2 ^ n : Nat) : Int) := by rw [Int.natCast_ediv]; rfl
  have hm : ((x : Int) * 2 ^ (32 - n) % 4294967296) = ((x * 2 ^ (32 - n) % 4294967296 : Nat) : Int) := by rw [Int.natCast_emod, Int.natCast_mul, Int.natCast_pow]; rfl
  have hb := bits_or (a := x / 2 ^ n) (b := x * 2 ^ (32 - n) % 4294967296) (Nat.lt_of_le_of_lt (Nat.div_le_self ..) hx) (Nat.mod_lt _ (by decide))
  rw [← hd, ← hm] at hb
  have HB := Lib.hid hb
  clear hd hm hb
  go_enter Tryz.func199, Tryz.ntmps199
  go_wp2_with fail
  go_quiet (fail)
  go_wp2_with fail
  go_ret
  refine ⟨?_, nq, rfl⟩
  show Ending.returned (Value.int IntKind.u32 (bits BinOp.or IntKind.u32 ((x : Int) / 2 ^ n) ((x : Int) * 2 ^ (32 - n) % 4294967296))) = _
  rw [HB.out]
  rfl
theorem rturn_at (x n : Nat) (k : Int) (hk : k = (n : Int)) (hx : x < 4294967296) (h1 : 1 ≤ n) (h2 : n ≤ 31) (w : World) :
    Calls Tryz.prog 199 #[.int .u32 (x : Int), .int .i64 k] w fun e w' => e = .returned (.int .u32 ((rotN x n : Nat) : Int)) ∧ ∃ q, w' = w.drewN q := by
  subst hk
  exact rturn_any x n hx h1 h2 w
theorem info64 : (Tryz.prog.info? 287).map (·.size) = some 64 := by kernel_rfl
theorem info8 : (Tryz.prog.info? 273).map (·.size) = some 8 := by kernel_rfl
theorem u32s_size (l : List Nat) : (u32s l).size = l.length := by simp [u32s]
theorem u32s_one (l : List Nat) : (u32s l).all (·.oneCell') = true := by
  unfold u32s
  rw [List.all_toArray, List.all_eq_true]
  intro x hx
  obtain ⟨b, _, rfl⟩ := List.mem_map.1 hx
  rfl
theorem zero_64 : ∃ zs : List Nat, zs = List.replicate 64 0 ∧ (#[.int .u32 0, .int .u32 0, .int .u32 0, .int .u32 0, .int .u32 0, .int .u32 0, .int .u32 0, .int .u32 0, .int .u32 0, .int .u32 0, .int .u32 0, .int .u32 0, .int .u32 0, .int .u32 0, .int .u32 0, .int .u32 0, .int .u32 0, .int .u32 0, .int .u32 0, .int .u32 0, .int .u32 0, .int .u32 0, .int .u32 0, .int .u32 0, .int .u32 0, .int .u32 0, .int .u32 0, .int .u32 0, .int .u32 0, .int .u32 0, .int .u32 0, .int .u32 0, .int .u32 0, .int .u32 0, .int .u32 0, .int .u32 0, .int .u32 0, .int .u32 0, .int .u32 0, .int .u32 0, .int .u32 0, .int .u32 0, .int .u32 0, .int .u32 0, .int .u32 0, .int .u32 0, .int .u32 0, .int .u32 0, .int .u32 0, .int .u32 0, .int .u32 0, .int .u32 0, .int .u32 0, .int .u32 0, .int .u32 0, .int .u32 0, .int .u32 0, .int .u32 0, .int .u32 0, .int .u32 0, .int .u32 0, .int .u32 0, .int .u32 0, .int .u32 0] : Array Value) = u32s zs := ⟨List.replicate 64 0, rfl, by kernel_rfl⟩
set_option maxHeartbeats 4000000 in
set_option maxRecDepth 100000 in
theorem sched_any (l : List UInt8) (b o c : Nat) (w : World) (hl : l.length = 64) (hb : w.rangeAt b o (Lib.byteCells l)) :
    Calls Tryz.prog 198 #[.slice (some ⟨b, o, none⟩) 64 c] w fun e w' => e = .returned (.agg (u32s (sched l 48))) ∧ Below w.heap.size w w' := by
  have HL := Lib.hid hl
  have hbw0 : b < w.heap.size := by
    obtain ⟨x, hx⟩ : ∃ x, l[0]? = some x := ⟨_, List.getElem?_eq_getElem (by omega)⟩
    exact lt_of_cell (hb 0 _ (by unfold Lib.byteCells; rw [List.getElem?_map, hx]; rfl))
  obtain ⟨X, hX⟩ : ∃ X, sched l 48 = X := ⟨_, rfl⟩
  have HXL := Lib.hid (show (u32s X).size = 64 by rw [u32s_size, ← hX]; exact sched_len l hl 48)
  rw [hX]
  have HX := Lib.hid hX
  obtain ⟨zs, hzs, hz64⟩ := zero_64
  have HZS := Lib.hid hzs
  have HZL := Lib.hid (show (u32s zs).size = 64 by rw [u32s_size, hzs]; rfl)
  have HR0 := Lib.hid (heap_one w (.cells (u32s zs) 287))
  have HB0 := Lib.hid (below_one w (.cells (u32s zs) 287))
  have HB := Lib.hid (range_below HB0.out hb)
  have hs0 : (w.alloc (.cells (u32s zs) 287)).heap.size = w.heap.size + 1 := by simp
  clear hl hb hzs hX
  go_enter Tryz.func198, Tryz.ntmps198
  go_upto_region 1 with fail
  generalize (w.alloc (.cells (u32s zs) 287)) = w1 at *
  have hbw : b < w1.heap.size := by omega
  have HS0 := Lib.hid hs0
  clear hs0 hbw0
  go_wp2_with fail
  clear hz64
  go_loopw [4] (fun vt wr => ∃ t : Nat, t ≤ 16 ∧ vt = .int .i64 (t : Int) ∧ wr.heap[w1.heap.size]? = some (.cells (u32s (wordsAt l t)) 287) ∧ Below w1.heap.size w1 wr) (fun vt _ => 16 - (intOf vt).toNat)
  case atStart => exact ⟨0, by omega, rfl, by rw [show wordsAt l 0 = zs by rw [HZS.out]; rfl]; exact heap_one w1 _, below_one w1 _⟩
  case round =>
    obtain ⟨t, ht, rfl, hW, hbel⟩ := hrel
    rename World => wA
    by_cases ht16 : t < 16
    · have t1 : (t : Int) < 16 := by omega
      obtain ⟨p, q, r, z, e0, e1, e2, e3, e4⟩ := wordsOf_get 16 l (by rw [HL.out]) t ht16
      have cb : ∀ j x, l[j]? = some x → wA.cell? ⟨b, o + j, none⟩ = some (.int .u8 (x.toNat : Int)) := fun j x hx => below_cell' hbel hbw (HB.out j _ (by unfold Lib.byteCells; rw [List.getElem?_map, hx]; rfl))
      have c0 := cb _ _ e0
      have c1 := cb _ _ e1
      have c2 := cb _ _ e2
      have c3 := cb _ _ e3
      have hbA : b < wA.heap.size := Nat.lt_of_lt_of_le hbw hbel.size
      have hNA := lt_of_heap hW
      have k0 := cell_of hW t (u32s_get (wordsAt l t) t (x := 0) (by unfold wordsAt; rw [List.getElem?_append_right (by rw [List.length_take]; omega), List.getElem?_replicate]; rw [List.length_take, wordsOf_len 16 l (by rw [HL.out]), Nat.min_eq_left ht]; simp; omega))
      have f0 := frozen_row hW t
      have j0 : (4 * (t : Int)).toNat = 4 * t := by omega
      have j1 : (4 * (t : Int) + 1).toNat = 4 * t + 1 := by omega
      have j2 : (4 * (t : Int) + 2).toNat = 4 * t + 2 := by omega
      have j3 : (4 * (t : Int) + 3).toNat = 4 * t + 3 := by omega
      have HW := Lib.hid hW
      have HBE := Lib.hid hbel
      have E4 := Lib.hid e4
      clear hW hbel cb e0 e1 e2 e3 e4
      have t64 : (t : Int) < 64 := by omega
      have t00 : (0 : Int) ≤ (t : Int) := by omega
      have a0 : (0 : Int) ≤ 4 * (t : Int) := by omega
      have a1 : (0 : Int) ≤ 4 * (t : Int) + 1 := by omega
      have a2 : (0 : Int) ≤ 4 * (t : Int) + 2 := by omega
      have a3 : (0 : Int) ≤ 4 * (t : Int) + 3 := by omega
      have l0 : 4 * (t : Int) < 64 := by omega
      have l1 : 4 * (t : Int) + 1 < 64 := by omega
      have l2 : 4 * (t : Int) + 2 < 64 := by omega
      have l3 : 4 * (t : Int) + 3 < 64 := by omega
      have m0 : IntKind.i64.wrap (4 * (t : Int)) = 4 * (t : Int) := IntWalk.i64_in _ (by omega)
      have m1 : IntKind.i64.wrap (4 * (t : Int) + 1) = 4 * (t : Int) + 1 := IntWalk.i64_in _ (by omega)
      have m2 : IntKind.i64.wrap (4 * (t : Int) + 2) = 4 * (t : Int) + 2 := IntWalk.i64_in _ (by omega)
      have m3 : IntKind.i64.wrap (4 * (t : Int) + 3) = 4 * (t : Int) + 3 := IntWalk.i64_in _ (by omega)
      have p256 := UInt8.toNat_lt p
      have q256 := UInt8.toNat_lt q
      have r256 := UInt8.toNat_lt r
      have z256 := UInt8.toNat_lt z
      have wq0 := wrap_small p.toNat (by omega)
      have wq1 := wrap_small q.toNat (by omega)
      have wq2 := wrap_small r.toNat (by omega)
      have wq3 := wrap_small z.toNat (by omega)
      have x0 : IntKind.wrap .u32 ((p.toNat : Int) * 16777216) = (p.toNat : Int) * 16777216 := wrap_mul p.toNat 16777216 (by omega)
      have x1 : IntKind.wrap .u32 ((q.toNat : Int) * 65536) = (q.toNat : Int) * 65536 := wrap_mul q.toNat 65536 (by omega)
      have x2 : IntKind.wrap .u32 ((r.toNat : Int) * 256) = (r.toNat : Int) * 256 := wrap_mul r.toNat 256 (by omega)
      have xw := word_bits p q r z
      go_wp2_with fail
      go_still_tail 35, (by kernel_rfl)
      go_wp2_with fail
      go_roundw
      case rel =>
        have h := set_heapS (i := t) (u := .int .u32 ((word4 p q r z : Nat) : Int)) HW.out
        rw [u32s_set, wordsAt, wordsAt_next HL.out ht16 E4.out] at h
        exact ⟨t + 1, by omega, by go_num, h, (HBE.out.setCell (p := ⟨w1.heap.size, t, none⟩) (Nat.le_refl _) _).drew⟩
      case measure => simp [intOf]; omega
    · obtain rfl : t = 16 := by omega
      have e0 : wordsAt l 16 = schedAt l 16 := by
        unfold wordsAt schedAt
        rw [List.take_of_length_le (by rw [wordsOf_len 16 l (by rw [HL.out])]; exact Nat.le_refl _)]
        rfl
      rw [e0] at hW
      have HW := Lib.hid hW
      have HBE := Lib.hid hbel
      clear hW hbel e0 ht16 ht
      go_wp2_with fail
      go_loopw [5] (fun vt wr => ∃ t : Nat, 16 ≤ t ∧ t ≤ 64 ∧ vt = .int .i64 (t : Int) ∧ wr.heap[w1.heap.size]? = some (.cells (u32s (schedAt l t)) 287) ∧ Below w1.heap.size w1 wr) (fun vt _ => 64 - (intOf vt).toNat)
      case atStart => exact ⟨16, by omega, by omega, rfl, HW.out, HBE.out⟩
      case round =>
        obtain ⟨t, ht16, ht, rfl, hW, hbel⟩ := hrel
        rename World => wB
        by_cases ht64 : t < 64
        · have t1 : (t : Int) < 64 := by omega
          have t00 : (0 : Int) ≤ (t : Int) := by omega
          obtain ⟨p, q, r, z, e0, e1, e2, e3, hn, hp, hq, hr, hz⟩ := sched_parts HL.out ht16 ht64
          have k0 := cell_of hW (t - 16) (u32s_get _ _ e0)
          have k1 := cell_of hW (t - 15) (u32s_get _ _ e1)
          have k2 := cell_of hW (t - 7) (u32s_get _ _ e2)
          have k3 := cell_of hW (t - 2) (u32s_get _ _ e3)
          have kt := cell_of hW t (u32s_get (schedAt l t) t (x := 0) (sched_zero HL.out ht16 ht64))
          have ft := frozen_row hW t
          have hNB := lt_of_heap hW
          have HW := Lib.hid hW
          have HBE := Lib.hid hbel
          have HNX := Lib.hid hn
          clear hW hbel e0 e1 e2 e3 hn
          have a0 : (0 : Int) ≤ (t : Int) - 16 := by omega
          have a1 : (0 : Int) ≤ (t : Int) - 15 := by omega
          have a2 : (0 : Int) ≤ (t : Int) - 7 := by omega
          have a3 : (0 : Int) ≤ (t : Int) - 2 := by omega
          have b0 : (t : Int) - 16 < 64 := by omega
          have b1 : (t : Int) - 15 < 64 := by omega
          have b2 : (t : Int) - 7 < 64 := by omega
          have b3 : (t : Int) - 2 < 64 := by omega
          have j0 : ((t : Int) - 16).toNat = t - 16 := by omega
          have j1 : ((t : Int) - 15).toNat = t - 15 := by omega
          have j2 : ((t : Int) - 7).toNat = t - 7 := by omega
          have j3 : ((t : Int) - 2).toNat = t - 2 := by omega
          have m0 : IntKind.i64.wrap ((t : Int) - 16) = (t : Int) - 16 := IntWalk.i64_in _ (by omega)
          have m1 : IntKind.i64.wrap ((t : Int) - 15) = (t : Int) - 15 := IntWalk.i64_in _ (by omega)
          have m2 : IntKind.i64.wrap ((t : Int) - 7) = (t : Int) - 7 := IntWalk.i64_in _ (by omega)
          have m3 : IntKind.i64.wrap ((t : Int) - 2) = (t : Int) - 2 := IntWalk.i64_in _ (by omega)
          have g0 := sg0_bits hq
          have g1 := sg1_bits hz
          go_wp2_with fail
          refine wp_region_quiet_tail 29 (by kernel_rfl) (by kernel_rfl) ?_
          simp only [List.take_succ_cons, List.take_zero, List.drop_succ_cons, List.drop_zero]
          repeat (go_big_quiet_step (fail))
          go_big_quiet_step ((go_at_call 199; exact Calls.quiet_of (rturn_at q 7 7 rfl hq (by decide) (by decide) _)))
          repeat (go_big_quiet_step (fail))
          go_big_quiet_step ((go_at_call 199; exact Calls.quiet_of (rturn_at q 18 18 rfl hq (by decide) (by decide) _)))
          repeat (go_big_quiet_step (fail))
          go_big_quiet_step ((go_at_call 199; exact Calls.quiet_of (rturn_at z 17 17 rfl hz (by decide) (by decide) _)))
          repeat (go_big_quiet_step (fail))
          go_big_quiet_step ((go_at_call 199; exact Calls.quiet_of (rturn_at z 19 19 rfl hz (by decide) (by decide) _)))
          repeat (go_big_quiet_step (fail))
          refine wpQuiet_nil ?_
          intro _ hw'
          obtain ⟨n2, hw''⟩ := hw'
          subst hw''
          go_wp2_with fail
          go_roundw
          case rel =>
            have h := set_heapS (i := t) (u := .int .u32 (((p + sg0 q + r + sg1 z) % 4294967296 : Nat) : Int)) HW.out
            rw [u32s_set, HNX.out] at h
            refine ⟨t + 1, by omega, by omega, by go_num, ?_, (belowN HBE.out n2).setCell (p := ⟨w1.heap.size, t, none⟩) (Nat.le_refl _) _⟩
            rw [show ((p : Int) + (sg0 q : Int) + (r : Int) + (sg1 z : Int)) % 4294967296 = (((p + sg0 q + r + sg1 z) % 4294967296 : Nat) : Int) by omega]
            exact h
          case measure => simp [intOf]; omega
        · obtain rfl : t = 64 := by omega
          have t1 : ¬ ((64 : Nat) : Int) < 64 := by decide
          have e64 : schedAt l 64 = sched l 48 := by
            show sched l 48 ++ List.replicate 0 0 = sched l 48
            rw [List.replicate_zero, List.append_nil]
          rw [e64, HX.out] at hW
          have HW := Lib.hid hW
          have HR1 := Lib.hid (hbel.block w.heap.size (by rw [HS0.out]; exact Nat.lt_succ_self _) |>.trans HR0.out)
          have HBE := Lib.hid (HB0.out.trans (hbel.mono (by rw [HS0.out]; exact Nat.le_succ _)))
          clear hW hbel e64 ht ht64 ht16
          have HRE := Lib.hid (setRow_heap wB w.heap.size _ (u32s X) 287 (0, 0) HR1.out)
          have HBR := Lib.hid (below_setRow HBE.out (Nat.le_refl _) (u32s X))
          go_wp2_with (first | (refine wpList_load_row (by rfl) 287 (.tmp 3) (by rfl) w1.heap.size (by rfl) 287 (u32s X) (0, 0) _ HW.out Tryz.underlying287 rfl (by rw [HXL.out]; exact info64) ?_) | (refine wpList_store_row (by rfl) 287 (.tmp 2) (.tmp 88) (by rfl) w.heap.size (u32s X) (by rfl) (by rfl) 287 (u32s zs) HR1.out (by rw [HXL.out]; exact info64) (by rw [HXL.out, HZL.out]) (u32s_one X) ?_))
          exact bodyPost_ret (results_row0 rfl _ _ w.heap.size 287 _ (0, 0) _ rfl HRE.out Tryz.underlying287 rfl (by rw [HXL.out]; exact info64)) rfl ⟨rfl, HBR.out⟩
end Go.Proofs.YtlahdjdbbfjadaaGreatDoor

namespace Go.Proofs.YtlahdjdbbfjadaaGreatDoor
open Go.RowKit

theorem wpList_newrow {ops : Array Oper} {rest : List Oper} {o : Oper} {a : Act} {w2 : World} {Q : Exit → Act → World → Prop} (hgd : o.guard = none) (T : TypeId) (x y : Operand) (ho : o.op = .store T x y)
    {cs old : Array Value} (hx : a.eval x = .pointer (some ⟨w2.heap.size, 0, none⟩)) (hy : a.eval y = .agg cs) (hi : (Tryz.prog.info? T).map (·.size) = some cs.size) (hold : old.size = cs.size) (hone : cs.all (·.oneCell') = true)
    (h : wpList Tryz.prog ops Q rest (a.put o.dst undef) (w2.alloc (.cells cs T))) : wpList Tryz.prog ops Q (o :: rest) a (w2.alloc (.cells old T)) := by
  refine wpList_store_row hgd T x y ho w2.heap.size cs hx hy T old (heap_alloc_new w2 _) hi hold hone ?_
  rw [stored1]
  exact h
theorem three_blocks (w : World) (A B C : Array Value) (TA TB TC : TypeId) : let W := ((w.alloc (.cells A TA)).alloc (.cells B TB)).alloc (.cells C TC)
    W.heap[w.heap.size]? = some (.cells A TA) ∧ W.heap[w.heap.size + 1]? = some (.cells B TB) ∧ W.heap[w.heap.size + 1 + 1]? = some (.cells C TC) ∧ W.heap.size = w.heap.size + 3 ∧ Below w.heap.size w W := by
  intro W
  have h1 := heap_one w (.cells A TA)
  have h2 := heap_one (w.alloc (.cells A TA)) (.cells B TB)
  have h3 := heap_one ((w.alloc (.cells A TA)).alloc (.cells B TB)) (.cells C TC)
  rw [show (w.alloc (.cells A TA)).heap.size = w.heap.size + 1 by simp] at h2
  rw [show ((w.alloc (.cells A TA)).alloc (.cells B TB)).heap.size = w.heap.size + 1 + 1 by simp] at h3
  refine ⟨?_, ?_, h3, by simp [W], ((below_one w _).alloc (by simp) _).alloc (by simp; omega) _⟩
  · exact (heap_alloc_old _ _ (by simp; omega)).trans ((heap_alloc_old _ _ (by simp)).trans h1)
  · exact (heap_alloc_old _ _ (by simp)).trans h2
theorem zero_8 : ∃ zs : List Nat, zs.length = 8 ∧ (#[.int .u32 0, .int .u32 0, .int .u32 0, .int .u32 0, .int .u32 0, .int .u32 0, .int .u32 0, .int .u32 0] : Array Value) = u32s zs := ⟨List.replicate 8 0, rfl, by kernel_rfl⟩
theorem add_comm_st (s v : St) : v.add s = s.add v := by
  simp only [St.add, Nat.add_comm]
theorem row8 (S : St) {z0 z1 z2 z3 z4 z5 z6 z7 : Int} (h0 : z0 = (S.a : Int)) (h1 : z1 = (S.b : Int)) (h2 : z2 = (S.c : Int)) (h3 : z3 = (S.d : Int)) (h4 : z4 = (S.e : Int)) (h5 : z5 = (S.f : Int)) (h6 : z6 = (S.g : Int)) (h7 : z7 = (S.h : Int)) :
    (#[.int .u32 z0, .int .u32 z1, .int .u32 z2, .int .u32 z3, .int .u32 z4, .int .u32 z5, .int .u32 z6, .int .u32 z7] : Array Value) = u32s (stL S) := by
  subst h0 h1 h2 h3 h4 h5 h6 h7
  rfl
theorem one8 (z0 z1 z2 z3 z4 z5 z6 z7 : Int) : (#[.int .u32 z0, .int .u32 z1, .int .u32 z2, .int .u32 z3, .int .u32 z4, .int .u32 z5, .int .u32 z6, .int .u32 z7] : Array Value).all (·.oneCell') = true := by
  rw [List.all_toArray]
  rfl
theorem mix_add (s v : St) : mix (stL v) (stL s) 8 = stL (s.add v) := by rw [← add_comm_st]; rfl
theorem mix_zero : ∀ (l m : List Nat), l.length = 8 → mix l m 0 = l
  | [_, _, _, _, _, _, _, _], _, _ => rfl
theorem stL_len (s : St) : (stL s).length = 8 := rfl
theorem stL_size (s : St) : (u32s (stL s)).size = 8 := by rw [u32s_size]; rfl
set_option maxHeartbeats 4000000 in
set_option maxRecDepth 100000 in
theorem rblock_any (s : St) (l : List UInt8) (ks : List Nat) (b o c : Nat) (w : World) (hs : s.Ok) (hl : l.length = 64) (hks : ks = shaK) (hb : w.rangeAt b o (Lib.byteCells l)) :
    Calls Tryz.prog 177 #[.agg (u32s (stL s)), .slice (some ⟨b, o, none⟩) 64 c, .agg (u32s ks)] w fun e w' => e = .returned (.agg (u32s (stL (s.block l)))) ∧ Below w.heap.size w w' := by
  obtain ⟨Y, hY⟩ : ∃ Y, s.block l = Y := ⟨_, rfl⟩
  rw [hY]
  obtain ⟨X, hX⟩ : ∃ X, sched l 48 = X := ⟨_, rfl⟩
  have hXl : X.length = 64 := by rw [← hX]; exact sched_len l hl 48
  have HYX := Lib.hid (show s.add (s.run X 64) = Y by rw [← hY, ← hX]; rfl)
  have HXL := Lib.hid hXl
  have HXS := Lib.hid (show (u32s X).size = 64 by rw [u32s_size]; exact hXl)
  have HKL := Lib.hid (show ks.length = 64 by rw [hks]; rfl)
  have HKS := Lib.hid hks
  obtain ⟨zs, hzs, hz8⟩ := zero_8
  obtain ⟨zt, hzt, hz64⟩ := zero_64
  have HZ8 := Lib.hid (show (u32s zs).size = 8 by rw [u32s_size]; exact hzs)
  have HZ64 := Lib.hid (show (u32s zt).size = 64 by rw [u32s_size, hzt]; rfl)
  obtain ⟨hA, hB, hC, hsz, hb3⟩ := three_blocks w (u32s (stL s)) (u32s ks) (u32s zs) 273 287 273
  have HS := Lib.hid hs
  have HL := Lib.hid hl
  have HX := Lib.hid hX
  have HB := Lib.hid (range_below hb3 hb)
  have hsS := stL_size s
  have hsK : (u32s ks).size = 64 := by rw [u32s_size, HKL.out]
  have HSS := Lib.hid hsS
  have HSK := Lib.hid hsK
  clear hs hl hb hX hY hXl hks hzs hzt hsS hsK
  go_enter Tryz.func177, Tryz.ntmps177
  go_upto_region 1 with fail
  generalize ((w.alloc (.cells (u32s (stL s)) 273)).alloc (.cells (u32s ks) 287)).alloc (.cells (u32s zs) 273) = w3 at *
  have HA := Lib.hid hA
  have HBK := Lib.hid hB
  have HC := Lib.hid hC
  have HSZ := Lib.hid hsz
  have HB3 := Lib.hid hb3
  clear hA hB hC hsz hb3
  have hq := sched_any l b o c w3 HL.out HB.out
  rw [HX.out] at hq
  have HQ := Lib.hid hq
  clear hq
  go_wp2_with (go_at_call 198; refine HQ.out.mono ?_)
  first
    | rintro e w4 rfl hb4
    | rintro e w4 ⟨rfl, hb4⟩
  have hA4 := below_heap hb4 HA.out
  have hK4 := below_heap hb4 HBK.out
  have hC4 := below_heap hb4 HC.out
  have b5 := below_one w4 (.cells (u32s X) 287)
  have hA5 := below_heap b5 hA4
  have HA5 := Lib.hid hA5
  have HK5 := Lib.hid (below_heap b5 hK4)
  have HC5 := Lib.hid (below_heap b5 hC4)
  have HX5 := Lib.hid (heap_one w4 (.cells (u32s X) 287))
  have HB5 := Lib.hid ((HB3.out.trans (hb4.mono HB3.out.size)).trans (b5.mono (Nat.le_trans HB3.out.size hb4.size)))
  clear hA4 hK4 hC4 hb4 b5
  go_upto_region 2 with (refine wpList_newrow (by rfl) 287 (.tmp 7) (.tmp 14) (by rfl) (by rfl) (by rfl) (by rw [HXS.out]; exact info64) (by rw [HXS.out, HZ64.out]) (u32s_one X) ?_)
  generalize (w4.alloc (.cells (u32s X) 287)) = w5 at *
  clear hA5 hz64
  have HV6 := Lib.hid (heap_one w5 (.cells (u32s (stL s)) 273))
  have b6 := below_one w5 (.cells (u32s (stL s)) 273)
  have HA6 := Lib.hid (below_heap b6 HA5.out)
  have HK6 := Lib.hid (below_heap b6 HK5.out)
  have HC6 := Lib.hid (below_heap b6 HC5.out)
  have HX6 := Lib.hid (below_heap b6 HX5.out)
  have HB6 := Lib.hid (HB5.out.trans (b6.mono HB5.out.size))
  have HL5 := Lib.hid (show w4.heap.size < w5.heap.size from lt_of_heap HX5.out)
  have HL3 := Lib.hid (show w.heap.size + 1 + 1 < w5.heap.size from lt_of_heap HC5.out)
  clear b6
  go_upto_region 3 with (first | (refine wpList_load_row (by rfl) 273 (.tmp 3) (by rfl) w.heap.size (by rfl) 273 (u32s (stL s)) (0, 0) _ HA5.out Tryz.underlying273 rfl (by rw [HSS.out]; exact info8) ?_) | (refine wpList_newrow (by rfl) 273 (.tmp 8) (.tmp 15) (by rfl) (by rfl) (by rfl) (by rw [HSS.out]; exact info8) (by rw [HSS.out, HZ8.out]) (u32s_one (stL s)) ?_))
  generalize (w5.alloc (.cells (u32s (stL s)) 273)) = w6 at *
  clear hz8
  generalize hg8 : w5.heap.size = g8 at *
  generalize hg7 : w4.heap.size = g7 at *
  clear hg8 hg7
  go_wp2_with fail
  go_loopw [9] (fun vt wr => ∃ t : Nat, t ≤ 64 ∧ vt = .int .i64 (t : Int) ∧ wr.heap[g8]? = some (.cells (u32s (stL (s.run X t))) 273) ∧ Below g8 w6 wr) (fun vt _ => 64 - (intOf vt).toNat)
  case atStart => exact ⟨0, by omega, rfl, HV6.out, Below.refl _ _⟩
  case round =>
    obtain ⟨t, ht, rfl, hV, hbel⟩ := hrel
    rename World => wC
    by_cases ht64 : t < 64
    · have t1 : (t : Int) < 64 := by omega
      have t00 : (0 : Int) ≤ (t : Int) := by omega
      have hok := HS.out.run X t
      have HRN := Lib.hid (show s.run X (t + 1) = (s.run X t).rnd (shaK.getD t 0) (X.getD t 0) from rfl)
      generalize s.run X t = v at *
      obtain ⟨va, vb, vc, vd, ve, vf, vg, vh⟩ := v
      obtain ⟨ha, hb, hc, hd, he, hf, hg, hh⟩ := hok
      simp only at ha hb hc hd he hf hg hh
      have c0 := cell_of hV 0 (v := .int .u32 (va : Int)) rfl
      have c1 := cell_of hV 1 (v := .int .u32 (vb : Int)) rfl
      have c2 := cell_of hV 2 (v := .int .u32 (vc : Int)) rfl
      have c3 := cell_of hV 3 (v := .int .u32 (vd : Int)) rfl
      have c4 := cell_of hV 4 (v := .int .u32 (ve : Int)) rfl
      have c5 := cell_of hV 5 (v := .int .u32 (vf : Int)) rfl
      have c6 := cell_of hV 6 (v := .int .u32 (vg : Int)) rfl
      have c7 := cell_of hV 7 (v := .int .u32 (vh : Int)) rfl
      have kk := cell_of ((hbel.block (w.heap.size + 1) (by have := HL3.out; omega)).trans HK6.out) t (u32s_get ks t (x := shaK.getD t 0) (by rw [HKS.out]; exact shaK_get ht64))
      have kw := cell_of ((hbel.block g7 HL5.out).trans HX6.out) t (u32s_get X t (x := X.getD t 0) (by
        have h := HXL.out
        rw [List.getD_eq_getElem?_getD, List.getElem?_eq_getElem (by omega)]
        rfl))
      generalize X.getD t 0 = W at *
      generalize shaK.getD t 0 = K at *
      have HV := Lib.hid hV
      have HBC := Lib.hid hbel
      have hNC := lt_of_cell kw
      have hTC := lt_of_cell kk
      have hVC := lt_of_cell c0
      clear hbel hV
      have hx : (if IntKind.u32.signed = true then (-1 : Int) else IntKind.u32.max) = 4294967295 := rfl
      have g1 := bg1_bits he
      have g0 := bg0_bits ha
      have gc := ch_bits he hf hg
      have gm := mj_bits ha hb hc
      go_wp2_with fail
      refine wp_region_quiet_lit (by kernel_rfl) (by as_aux_lemma => kernel_rfl) ?_
      repeat (go_big_quiet_step (fail))
      go_big_quiet_step ((go_at_call 199; exact Calls.quiet_of (rturn_at ve 6 6 rfl he (by decide) (by decide) _)))
      repeat (go_big_quiet_step (fail))
      go_big_quiet_step ((go_at_call 199; exact Calls.quiet_of (rturn_at ve 11 11 rfl he (by decide) (by decide) _)))
      repeat (go_big_quiet_step (fail))
      go_big_quiet_step ((go_at_call 199; exact Calls.quiet_of (rturn_at ve 25 25 rfl he (by decide) (by decide) _)))
      repeat (go_big_quiet_step (fail))
      refine wpQuiet_nil ?_
      intro _ hw'
      obtain ⟨n2, hw''⟩ := hw'
      subst hw''
      go_wp2_with fail
      refine wp_region_quiet_lit (by kernel_rfl) (by as_aux_lemma => kernel_rfl) ?_
      repeat (go_big_quiet_step (fail))
      go_big_quiet_step ((go_at_call 199; first | exact quiet_add (rturn_at va 2 2 rfl ha (by decide) (by decide) _) | exact Calls.quiet_of (rturn_at va 2 2 rfl ha (by decide) (by decide) _)))
      repeat (go_big_quiet_step (fail))
      go_big_quiet_step ((go_at_call 199; first | exact quiet_add (rturn_at va 13 13 rfl ha (by decide) (by decide) _) | exact Calls.quiet_of (rturn_at va 13 13 rfl ha (by decide) (by decide) _)))
      repeat (go_big_quiet_step (fail))
      go_big_quiet_step ((go_at_call 199; first | exact quiet_add (rturn_at va 22 22 rfl ha (by decide) (by decide) _) | exact Calls.quiet_of (rturn_at va 22 22 rfl ha (by decide) (by decide) _)))
      repeat (go_big_quiet_step (fail))
      refine wpQuiet_nil ?_
      intro _ hw'
      obtain ⟨n3, hw''⟩ := hw'
      subst hw''
      go_wp2_with (refine wpList_store_row (by rfl) 273 (.tmp 8) (.tmp 103) (by rfl) g8 _ (by rfl) (by rfl) 273 (u32s (stL ⟨va, vb, vc, vd, ve, vf, vg, vh⟩)) HV.out (by exact info8) (by rw [stL_size]; rfl) (one8 _ _ _ _ _ _ _ _) ?_)
      go_roundw
      case rel =>
        refine ⟨t + 1, by omega, by go_num, ?_, below_setRow (belowN HBC.out _) (Nat.le_refl _) _⟩
        refine (setRow_heap _ g8 _ _ 273 (0, 0) HV.out).trans ?_
        rw [HRN.out]
        refine congrArg (fun z => some (Obj.cells z 273 (0, 0))) (row8 _ ?_ rfl rfl rfl ?_ rfl rfl rfl)
        · simp only [St.rnd]
          omega
        · simp only [St.rnd]
          omega
      case measure => simp [intOf]; omega
    · obtain rfl : t = 64 := by omega
      have t1 : ¬ ((64 : Nat) : Int) < 64 := by decide
      have hyx := HYX.out
      generalize s.run X 64 = V at *
      have HAD := Lib.hid (show mix (stL V) (stL s) 8 = stL Y by rw [mix_add, hyx])
      have HBC := Lib.hid hbel
      have HM0 := Lib.hid (show wC.heap[g8]? = some (.cells (u32s (mix (stL V) (stL s) 0)) 273) by rw [mix_zero _ _ (stL_len V)]; exact hV)
      clear hV hbel ht ht64 hyx HYX
      go_wp2_with fail
      go_loopw [12] (fun vt wr => ∃ i : Nat, i ≤ 8 ∧ vt = .int .i64 (i : Int) ∧ wr.heap[g8]? = some (.cells (u32s (mix (stL V) (stL s) i)) 273) ∧ Below g8 w6 wr) (fun vt _ => 8 - (intOf vt).toNat)
      case atStart => exact ⟨0, by omega, rfl, HM0.out, HBC.out⟩
      case round =>
        obtain ⟨i, hi, rfl, hM, hO⟩ := hrel
        rename World => wD
        by_cases hi8 : i < 8
        · have i1 : (i : Int) < 8 := by omega
          have i0 : (0 : Int) ≤ (i : Int) := by omega
          have ck := cell_of hM i (u32s_get _ _ (mix_get (stL V) (stL s) hi8))
          have ch := cell_of ((hO.block w.heap.size (by have := HL3.out; omega)).trans HA6.out) i (u32s_get _ _ (stL_get s i hi8))
          have fk := frozen_row hM i
          have lk := lt_of_heap hM
          have lh := lt_of_cell ch
          have HMS := Lib.hid (mix_set (stL V) (stL s) hi8)
          have HMM := Lib.hid hM
          have HOO := Lib.hid hO
          clear hM hO HM0 HAD
          generalize (stL V).getD i 0 = x at *
          generalize (stL s).getD i 0 = y at *
          go_wp2_with fail
          go_still_tail 9, (by kernel_rfl)
          go_wp2_with fail
          go_roundw
          case rel =>
            have h := set_heapS (i := i) (u := .int .u32 (((x + y) % 4294967296 : Nat) : Int)) HMM.out
            rw [u32s_set, HMS.out] at h
            refine ⟨i + 1, by omega, by go_num, ?_, (HOO.out.setCell (p := ⟨g8, i, none⟩) (Nat.le_refl _) _).drew⟩
            rw [addM]
            exact h
          case measure => simp [intOf]; omega
        · obtain rfl : i = 8 := by omega
          have i1 : ¬ ((8 : Nat) : Int) < 8 := by decide
          rw [HAD.out] at hM
          have HMM := Lib.hid hM
          have HC7 := Lib.hid ((hO.block (w.heap.size + 1 + 1) (by have := HL3.out; omega)).trans HC6.out)
          have HBE := Lib.hid (HB6.out.trans (hO.mono (by have := HL3.out; omega)))
          have HYS := Lib.hid (stL_size Y)
          have HRE := Lib.hid (setRow_heap wD (w.heap.size + 1 + 1) _ (u32s (stL Y)) 273 (0, 0) HC7.out)
          have HBR := Lib.hid (below_setRow HBE.out (show w.heap.size ≤ w.heap.size + 1 + 1 by omega) (u32s (stL Y)))
          clear hM hO HM0 HAD
          go_wp2_with (first | (refine wpList_load_row (by rfl) 273 (.tmp 8) (by rfl) g8 (by rfl) 273 (u32s (stL Y)) (0, 0) _ HMM.out Tryz.underlying273 rfl (by rw [HYS.out]; exact info8) ?_) | (refine wpList_store_row (by rfl) 273 (.tmp 6) (.tmp 117) (by rfl) (w.heap.size + 1 + 1) (u32s (stL Y)) (by rfl) (by rfl) 273 (u32s zs) HC7.out (by rw [HYS.out]; exact info8) (by rw [HYS.out, HZ8.out]) (u32s_one _) ?_))
          exact bodyPost_ret (results_row0 rfl _ _ (w.heap.size + 1 + 1) 273 _ (0, 0) _ rfl HRE.out Tryz.underlying273 rfl (by rw [HYS.out]; exact info8)) rfl ⟨rfl, HBR.out⟩
end Go.Proofs.YtlahdjdbbfjadaaGreatDoor
