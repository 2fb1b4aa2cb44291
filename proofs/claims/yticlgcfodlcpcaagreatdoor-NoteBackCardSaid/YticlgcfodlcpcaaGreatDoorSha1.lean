/-
  SHA-256: sha.block by its contract.
-/
import Derived.Test.YticlgcfodlcpcaaGreatDoorKeyP
import Derived.Test.YticlgcfodlcpcaaGreatDoorNB
import Derived.Test.YticlgcfodlcpcaaGreatDoorQuietTail
import Derived.Deep.RegionHeld3
import Derived.Deep.CutRange
import Derived.Deep.DeepCutAuto
import Derived.StillTailTactics
import Derived.Deep.QuietTactic
import Derived.BigQuiet
import Derived.Deep.MidRow
import Derived.Outline
import Derived.IntWalk
namespace Go.Proofs.YticlgcfodlcpcaaGreatDoor
open Go.RowKit

def u32s (l : List Nat) : Array Value := (l.map fun x : Nat => Value.int .u32 (x : Int)).toArray
def stL (s : St) : List Nat := [s.a, s.b, s.c, s.d, s.e, s.f, s.g, s.h]
theorem u32s_get (l : List Nat) (i : Nat) {x : Nat} (h : l[i]? = some x) : (u32s l)[i]? = some (.int .u32 (x : Int)) := by
  unfold u32s
  rw [List.getElem?_toArray, List.getElem?_map, h]
  rfl
theorem u32s_set (l : List Nat) (i x : Nat) : (u32s l).setIfInBounds i (.int .u32 (x : Int)) = u32s (l.set i x) := by
  unfold u32s
  simp
/-- The constants, as the program has them. -/
def TabSha (w : World) : Prop := ∃ t fr, w.heap[21]? = some (.cells (u32s shaK) t fr)
theorem TabSha.below {w w' : World} (h : TabSha w) (hb : Below w.heap.size w w') : TabSha w' := by
  obtain ⟨t, fr, h⟩ := h
  exact ⟨t, fr, below_heap hb h⟩
theorem below_cell' {B : Nat} {w w' : World} (hb : Below B w w') {a : Addr} {v : Value} (ha : a.block < B) (hc : w.cell? a = some v) : w'.cell? a = some v := by
  unfold World.cell? at *
  rw [hb.block _ ha]
  exact hc
theorem or_lt32 {a b : Nat} (ha : a < 4294967296) (hb : b < 4294967296) : a ||| b < 4294967296 := Nat.or_lt_two_pow (n := 32) ha hb
set_option maxRecDepth 1000000 in
theorem word_bits (p q r z : UInt8) : bits .or .u32 (bits .or .u32 (bits .or .u32 ((p.toNat : Int) * 16777216) ((q.toNat : Int) * 65536)) ((r.toNat : Int) * 256)) (z.toNat : Int) = ((word4 p q r z : Nat) : Int) := by
  have h1 := UInt8.toNat_lt p
  have h2 := UInt8.toNat_lt q
  have h3 := UInt8.toNat_lt r
  have h4 := UInt8.toNat_lt z
  have b1 : p.toNat * 16777216 < 4294967296 := Nat.lt_of_lt_of_le (Nat.mul_lt_mul_of_pos_right h1 (by decide)) (Nat.le_refl _)
  have b2 : q.toNat * 65536 < 4294967296 := by omega
  have b3 : r.toNat * 256 < 4294967296 := by omega
  have o1 : p.toNat * 16777216 ||| q.toNat * 65536 < 4294967296 := or_lt32 b1 b2
  have o2 : (p.toNat * 16777216 ||| q.toNat * 65536) ||| r.toNat * 256 < 4294967296 := or_lt32 o1 b3
  have e1 := bits_or b1 b2
  have e2 := bits_or o1 b3
  have e3 := bits_or o2 (show z.toNat < 4294967296 by omega)
  rw [word4_or] at e3
  rw [Int.natCast_mul, Int.natCast_mul] at e1
  rw [Int.natCast_mul] at e2
  rw [← e3, ← e2, ← e1]
  rfl
theorem wrap_small (x : Nat) (h : x < 4294967296) : IntKind.wrap .u32 (x : Int) = (x : Int) := by rw [wrap_u32]; omega
theorem wrap_mul (x k : Nat) (h : x * k < 4294967296) : IntKind.wrap .u32 ((x : Int) * (k : Int)) = (x : Int) * (k : Int) := by
  rw [← Int.natCast_mul]
  exact wrap_small _ h
theorem wordsAt_next {l : List UInt8} (hl : l.length = 64) {t x : Nat} (ht : t < 16) (hx : (wordsOf l)[t]? = some x) : ((wordsOf l).take t ++ List.replicate (64 - t) 0).set t x = (wordsOf l).take (t + 1) ++ List.replicate (64 - (t + 1)) 0 := by
  have h16 := wordsOf_len 16 l (by rw [hl])
  rw [List.set_append_right _ _ (by rw [List.length_take]; omega), List.length_take, h16, Nat.min_eq_left (by omega), Nat.sub_self, show 64 - t = 64 - (t + 1) + 1 by omega, List.replicate_succ, List.set_cons_zero, List.take_add_one, hx]
  simp
def wordsAt (l : List UInt8) (t : Nat) : List Nat := (wordsOf l).take t ++ List.replicate (64 - t) 0

def schedAt (l : List UInt8) (t : Nat) : List Nat := sched l (t - 16) ++ List.replicate (64 - t) 0
theorem sched_parts {l : List UInt8} (hl : l.length = 64) {t : Nat} (h16 : 16 ≤ t) (h64 : t < 64) : ∃ p q r z, (schedAt l t)[t - 16]? = some p ∧ (schedAt l t)[t - 15]? = some q ∧ (schedAt l t)[t - 7]? = some r ∧ (schedAt l t)[t - 2]? = some z ∧
    (schedAt l t).set t ((p + sg0 q + r + sg1 z) % 4294967296) = schedAt l (t + 1) ∧ p < 4294967296 ∧ q < 4294967296 ∧ r < 4294967296 ∧ z < 4294967296 := by
  have hn := sched_len l hl (t - 16)
  have hlt := sched_lt l hl (t - 16)
  have hg : ∀ i, i < t → ∃ x, (sched l (t - 16))[i]? = some x ∧ x < 4294967296 ∧ (sched l (t - 16)).getD i 0 = x := fun i hi => by
    refine ⟨(sched l (t - 16))[i]'(by omega), List.getElem?_eq_getElem (by omega), hlt _ (List.getElem_mem _), ?_⟩
    rw [List.getD_eq_getElem?_getD, List.getElem?_eq_getElem (by omega)]
    rfl
  have ha : ∀ i, i < t → (schedAt l t)[i]? = (sched l (t - 16))[i]? := fun i hi => by
    unfold schedAt
    rw [List.getElem?_append_left (by omega)]
  obtain ⟨p, p1, p2, p3⟩ := hg (t - 16) (by omega)
  obtain ⟨q, q1, q2, q3⟩ := hg (t - 15) (by omega)
  obtain ⟨r, r1, r2, r3⟩ := hg (t - 7) (by omega)
  obtain ⟨z, z1, z2, z3⟩ := hg (t - 2) (by omega)
  refine ⟨p, q, r, z, by rw [ha _ (by omega)]; exact p1, by rw [ha _ (by omega)]; exact q1, by rw [ha _ (by omega)]; exact r1, by rw [ha _ (by omega)]; exact z1, ?_, p2, q2, r2, z2⟩
  unfold schedAt
  rw [List.set_append_right _ _ (by omega), hn, show t - (16 + (t - 16)) = 0 by omega, show 64 - t = 64 - (t + 1) + 1 by omega, List.replicate_succ, List.set_cons_zero, show t + 1 - 16 = (t - 16) + 1 by omega, sched, List.append_assoc]
  unfold nextW
  rw [show 16 + (t - 16) = t by omega, p3, q3, r3, z3]
  rfl
theorem sched_zero {l : List UInt8} (hl : l.length = 64) {t : Nat} (h16 : 16 ≤ t) (h64 : t < 64) : (schedAt l t)[t]? = some 0 := by
  have hn := sched_len l hl (t - 16)
  unfold schedAt
  rw [List.getElem?_append_right (by omega), List.getElem?_replicate, hn, if_pos (by omega)]
theorem belowN {B : Nat} {a w : World} (h : Below B a w) (n : Nat) : Below B a (w.drewN n) := ⟨h.os, h.tape, h.output, h.size, h.block⟩
theorem addM (a b : Nat) : ((a : Int) + (b : Int)) % 4294967296 = (((a + b) % 4294967296 : Nat) : Int) := by omega
theorem only_of_below {a w : World} (h : Below a.heap.size a w) (row : Option Nat) : a.grownBy w row := ⟨h.os, h.tape, h.output, h.size, fun i hi _ => h.block i hi⟩
theorem only_drew {a w : World} {row : Option Nat} (h : a.grownBy w row) : a.grownBy w.drew row := ⟨h.os, h.tape, h.output, h.size, h.block⟩
theorem only_set {a w : World} {g : Nat} (h : a.grownBy w (some g)) (o : Nat) (u : Value) : a.grownBy (w.setCell ⟨g, o, none⟩ u) (some g) :=
  ⟨h.os, h.tape, h.output, by simpa [World.setCell] using h.size, fun i hi hne => (heap_setCell_other w ⟨g, o, none⟩ i u (fun e => hne (congrArg some e))).trans (h.block i hi hne)⟩
def mix (l m : List Nat) (i : Nat) : List Nat := (List.range 8).map fun j => if j < i then (l.getD j 0 + m.getD j 0) % 4294967296 else l.getD j 0
theorem mix_get (l m : List Nat) {i : Nat} (h : i < 8) : (mix l m i)[i]? = some (l.getD i 0) := by
  unfold mix
  rw [List.getElem?_map, List.getElem?_range h, Option.map_some, if_neg (Nat.lt_irrefl i)]
theorem mix_set (l m : List Nat) {i : Nat} (h : i < 8) : (mix l m i).set i ((l.getD i 0 + m.getD i 0) % 4294967296) = mix l m (i + 1) := by
  rcases show i = 0 ∨ i = 1 ∨ i = 2 ∨ i = 3 ∨ i = 4 ∨ i = 5 ∨ i = 6 ∨ i = 7 by omega with rfl | rfl | rfl | rfl | rfl | rfl | rfl | rfl <;> rfl
theorem run_idx8 (a b c d e f g h : Nat) (i : Nat) (hi : i < 8) (W : World) : (Instr.index 180 (.agg #[.int .u32 (a : Int), .int .u32 (b : Int), .int .u32 (c : Int), .int .u32 (d : Int), .int .u32 (e : Int), .int .u32 (f : Int), .int .u32 (g : Int), .int .u32 (h : Int)]) (.int .i64 (i : Int))).run Tryz.prog W = .ok (.int .u32 ((([a, b, c, d, e, f, g, h] : List Nat).getD i 0 : Nat) : Int)) W := by
  rcases show i = 0 ∨ i = 1 ∨ i = 2 ∨ i = 3 ∨ i = 4 ∨ i = 5 ∨ i = 6 ∨ i = 7 by omega with rfl | rfl | rfl | rfl | rfl | rfl | rfl | rfl <;> kernel_rfl
def RunAt (s : St) (a b c d e f g h : Value) : Prop := a = .int .u32 (s.a : Int) ∧ b = .int .u32 (s.b : Int) ∧ c = .int .u32 (s.c : Int) ∧ d = .int .u32 (s.d : Int) ∧ e = .int .u32 (s.e : Int) ∧ f = .int .u32 (s.f : Int) ∧ g = .int .u32 (s.g : Int) ∧ h = .int .u32 (s.h : Int)
theorem sched_end {l : List UInt8} (hl : l.length = 64) {t : Nat} (h64 : t < 64) : (schedAt l 64)[t]? = some ((sched l 48).getD t 0) := by
  have hn := sched_len l hl 48
  unfold schedAt
  have ht : t < (sched l (64 - 16)).length := by
    show t < (sched l 48).length
    omega
  rw [show 64 - 64 = 0 from rfl, List.replicate_zero, List.append_nil, List.getD_eq_getElem?_getD, List.getElem?_eq_getElem ht]
  rfl
theorem shaK_get {t : Nat} (h64 : t < 64) : shaK[t]? = some (shaK.getD t 0) := by
  rw [List.getD_eq_getElem?_getD, List.getElem?_eq_getElem (show t < shaK.length from h64)]
  rfl
theorem set_heapS {W : World} {b i : Nat} {cs : Array Value} {t : TypeId} {fr : Nat × Nat} {u : Value} (h : W.heap[b]? = some (.cells cs t fr)) :
    (W.setCell ⟨b, i, none⟩ u).heap[b]? = some (.cells (cs.setIfInBounds i u) t fr) := by
  simp [World.setCell, Array.getElem?_modify, h]
set_option maxHeartbeats 4000000 in
set_option maxRecDepth 100000 in
theorem block_any (s : St) (l : List UInt8) (g b o c : Nat) (w : World) (hs : s.Ok) (hl : l.length = 64) (hg : w.heap[g]? = some (.cells (u32s (stL s)) 180)) (hb : w.rangeAt b o (Lib.byteCells l)) (htab : TabSha w) :
    Calls Tryz.prog 132 #[.pointer (some ⟨g, 0, none⟩), .slice (some ⟨b, o, none⟩) 64 c] w fun e w' => e = .returned (.tuple #[]) ∧ w'.heap[g]? = some (.cells (u32s (stL (s.block l))) 180) ∧ w.grownBy w' (some g) := by
  have HS := Lib.hid hs
  have HL := Lib.hid hl
  have HG := Lib.hid hg
  have HB := Lib.hid hb
  have HT := Lib.hid htab
  have hgw := lt_of_heap hg
  have hbw : b < w.heap.size := by
    obtain ⟨x, hx⟩ : ∃ x, l[0]? = some x := ⟨_, List.getElem?_eq_getElem (by omega)⟩
    exact lt_of_cell (hb 0 _ (by unfold Lib.byteCells; rw [List.getElem?_map, hx]; rfl))
  clear hs hl hg hb htab
  go_enter Tryz.func132, Tryz.ntmps132
  go_wp2_with fail
  go_loopw [22] (fun vt wr => ∃ t : Nat, t ≤ 16 ∧ vt = .int .i64 (t : Int) ∧ wr.heap[w.heap.size]? = some (.cells (u32s (wordsAt l t)) 178) ∧ Below w.heap.size w wr) (fun vt _ => 16 - (intOf vt).toNat)
  case atStart => exact ⟨0, by omega, rfl, heap_one w _, below_one w _⟩
  case round =>
    obtain ⟨t, ht, rfl, hW, hbel⟩ := hrel
    rename World => wA
    by_cases ht16 : t < 16
    · have t1 : (t : Int) < 16 := by omega
      obtain ⟨p, q, r, z, e0, e1, e2, e3, e4⟩ := wordsOf_get 16 l (by rw [HL.out]) t ht16
      have cb : ∀ j x, l[j]? = some x → wA.cell? ⟨b, o + j, none⟩ = some (.int .u8 (x.toNat : Int)) := fun j x hx => below_cell' hbel hbw (HB.out j _ (by unfold Lib.byteCells; rw [List.getElem?_map, hx]; rfl))
      have c0 := cb _ _ e0
      have c1 := cb _ _ e1
      have c2 := cb _ _ e2
      have c3 := cb _ _ e3
      have hbA : b < wA.heap.size := Nat.lt_of_lt_of_le hbw hbel.size
      have hNA := lt_of_heap hW
      have k0 := cell_of hW t (u32s_get (wordsAt l t) t (x := 0) (by unfold wordsAt; rw [List.getElem?_append_right (by rw [List.length_take]; omega), List.getElem?_replicate]; rw [List.length_take, wordsOf_len 16 l (by rw [HL.out]), Nat.min_eq_left ht]; simp; omega))
      have f0 := frozen_row hW t
      have j0 : (4 * (t : Int)).toNat = 4 * t := by omega
      have j1 : (4 * (t : Int) + 1).toNat = 4 * t + 1 := by omega
      have j2 : (4 * (t : Int) + 2).toNat = 4 * t + 2 := by omega
      have j3 : (4 * (t : Int) + 3).toNat = 4 * t + 3 := by omega
      have HW := Lib.hid hW
      have HBE := Lib.hid hbel
      have E4 := Lib.hid e4
      clear hW hbel cb e0 e1 e2 e3 e4
      have t64 : (t : Int) < 64 := by omega
      have t00 : (0 : Int) ≤ (t : Int) := by omega
      have a0 : (0 : Int) ≤ 4 * (t : Int) := by omega
      have a1 : (0 : Int) ≤ 4 * (t : Int) + 1 := by omega
      have a2 : (0 : Int) ≤ 4 * (t : Int) + 2 := by omega
      have a3 : (0 : Int) ≤ 4 * (t : Int) + 3 := by omega
      have l0 : 4 * (t : Int) < 64 := by omega
      have l1 : 4 * (t : Int) + 1 < 64 := by omega
      have l2 : 4 * (t : Int) + 2 < 64 := by omega
      have l3 : 4 * (t : Int) + 3 < 64 := by omega
      have m0 : IntKind.i64.wrap (4 * (t : Int)) = 4 * (t : Int) := IntWalk.i64_in _ (by omega)
      have m1 : IntKind.i64.wrap (4 * (t : Int) + 1) = 4 * (t : Int) + 1 := IntWalk.i64_in _ (by omega)
      have m2 : IntKind.i64.wrap (4 * (t : Int) + 2) = 4 * (t : Int) + 2 := IntWalk.i64_in _ (by omega)
      have m3 : IntKind.i64.wrap (4 * (t : Int) + 3) = 4 * (t : Int) + 3 := IntWalk.i64_in _ (by omega)
      have p256 := UInt8.toNat_lt p
      have q256 := UInt8.toNat_lt q
      have r256 := UInt8.toNat_lt r
      have z256 := UInt8.toNat_lt z
      have w0 := wrap_small p.toNat (by omega)
      have w1 := wrap_small q.toNat (by omega)
      have w2 := wrap_small r.toNat (by omega)
      have w3 := wrap_small z.toNat (by omega)
      have x0 : IntKind.wrap .u32 ((p.toNat : Int) * 16777216) = (p.toNat : Int) * 16777216 := wrap_mul p.toNat 16777216 (by omega)
      have x1 : IntKind.wrap .u32 ((q.toNat : Int) * 65536) = (q.toNat : Int) * 65536 := wrap_mul q.toNat 65536 (by omega)
      have x2 : IntKind.wrap .u32 ((r.toNat : Int) * 256) = (r.toNat : Int) * 256 := wrap_mul r.toNat 256 (by omega)
      have xw := word_bits p q r z
      go_wp2_with fail
      go_still_tail 35, (by kernel_rfl)
      go_wp2_with fail
      go_roundw
      case rel =>
        have h := set_heapS (i := t) (u := .int .u32 ((word4 p q r z : Nat) : Int)) HW.out
        rw [u32s_set, wordsAt, wordsAt_next HL.out ht16 E4.out] at h
        exact ⟨t + 1, by omega, by go_num, h, (HBE.out.setCell (p := ⟨w.heap.size, t, none⟩) (Nat.le_refl _) _).drew⟩
      case measure => simp [intOf]; omega
    · obtain rfl : t = 16 := by omega
      have e0 : wordsAt l 16 = schedAt l 16 := by
        unfold wordsAt schedAt
        rw [List.take_of_length_le (by rw [wordsOf_len 16 l (by rw [HL.out])]; exact Nat.le_refl _)]
        rfl
      rw [e0] at hW
      have HW := Lib.hid hW
      have HBE := Lib.hid hbel
      clear hW hbel e0 ht16 ht
      go_wp2_with fail
      go_loopw [6] (fun vt wr => ∃ t : Nat, 16 ≤ t ∧ t ≤ 64 ∧ vt = .int .i64 (t : Int) ∧ wr.heap[w.heap.size]? = some (.cells (u32s (schedAt l t)) 178) ∧ Below w.heap.size w wr) (fun vt _ => 64 - (intOf vt).toNat)
      case atStart => exact ⟨16, by omega, by omega, rfl, HW.out, HBE.out⟩
      case round =>
        obtain ⟨t, ht16, ht, rfl, hW, hbel⟩ := hrel
        rename World => wB
        by_cases ht64 : t < 64
        · have t1 : (t : Int) < 64 := by omega
          have t00 : (0 : Int) ≤ (t : Int) := by omega
          obtain ⟨p, q, r, z, e0, e1, e2, e3, hn, hp, hq, hr, hz⟩ := sched_parts HL.out ht16 ht64
          have k0 := cell_of hW (t - 16) (u32s_get _ _ e0)
          have k1 := cell_of hW (t - 15) (u32s_get _ _ e1)
          have k2 := cell_of hW (t - 7) (u32s_get _ _ e2)
          have k3 := cell_of hW (t - 2) (u32s_get _ _ e3)
          have kt := cell_of hW t (u32s_get (schedAt l t) t (x := 0) (sched_zero HL.out ht16 ht64))
          have ft := frozen_row hW t
          have hNB := lt_of_heap hW
          have HW := Lib.hid hW
          have HBE := Lib.hid hbel
          have HNX := Lib.hid hn
          clear hW hbel e0 e1 e2 e3 hn
          have a0 : (0 : Int) ≤ (t : Int) - 16 := by omega
          have a1 : (0 : Int) ≤ (t : Int) - 15 := by omega
          have a2 : (0 : Int) ≤ (t : Int) - 7 := by omega
          have a3 : (0 : Int) ≤ (t : Int) - 2 := by omega
          have b0 : (t : Int) - 16 < 64 := by omega
          have b1 : (t : Int) - 15 < 64 := by omega
          have b2 : (t : Int) - 7 < 64 := by omega
          have b3 : (t : Int) - 2 < 64 := by omega
          have j0 : ((t : Int) - 16).toNat = t - 16 := by omega
          have j1 : ((t : Int) - 15).toNat = t - 15 := by omega
          have j2 : ((t : Int) - 7).toNat = t - 7 := by omega
          have j3 : ((t : Int) - 2).toNat = t - 2 := by omega
          have m0 : IntKind.i64.wrap ((t : Int) - 16) = (t : Int) - 16 := IntWalk.i64_in _ (by omega)
          have m1 : IntKind.i64.wrap ((t : Int) - 15) = (t : Int) - 15 := IntWalk.i64_in _ (by omega)
          have m2 : IntKind.i64.wrap ((t : Int) - 7) = (t : Int) - 7 := IntWalk.i64_in _ (by omega)
          have m3 : IntKind.i64.wrap ((t : Int) - 2) = (t : Int) - 2 := IntWalk.i64_in _ (by omega)
          have g0 := sg0_bits hq
          have g1 := sg1_bits hz
          go_wp2_with fail
          go_quiet (fail)
          go_wp2_with fail
          refine wp_region_quiet_tail 29 (by kernel_rfl) (by kernel_rfl) ?_
          simp only [List.take_succ_cons, List.take_zero, List.drop_succ_cons, List.drop_zero]
          repeat (go_big_quiet_step (fail))
          go_big_quiet_step ((go_at_call 155; exact quiet_add (turn_at q 7 7 rfl hq (by decide) (by decide) _)))
          repeat (go_big_quiet_step (fail))
          go_big_quiet_step ((go_at_call 155; exact quiet_add (turn_at q 18 18 rfl hq (by decide) (by decide) _)))
          repeat (go_big_quiet_step (fail))
          go_big_quiet_step ((go_at_call 155; exact quiet_add (turn_at z 17 17 rfl hz (by decide) (by decide) _)))
          repeat (go_big_quiet_step (fail))
          go_big_quiet_step ((go_at_call 155; exact quiet_add (turn_at z 19 19 rfl hz (by decide) (by decide) _)))
          repeat (go_big_quiet_step (fail))
          refine wpQuiet_nil ?_
          intro _ hw'
          obtain ⟨n2, hw''⟩ := hw'
          subst hw''
          go_wp2_with fail
          go_roundw
          case rel =>
            have h := set_heapS (i := t) (u := .int .u32 (((p + sg0 q + r + sg1 z) % 4294967296 : Nat) : Int)) HW.out
            rw [u32s_set, HNX.out] at h
            refine ⟨t + 1, by omega, by omega, by go_num, ?_, (belowN HBE.out (nq + n2)).setCell (p := ⟨w.heap.size, t, none⟩) (Nat.le_refl _) _⟩
            rw [show ((p : Int) + (sg0 q : Int) + (r : Int) + (sg1 z : Int)) % 4294967296 = (((p + sg0 q + r + sg1 z) % 4294967296 : Nat) : Int) by omega]
            exact h
          case measure => simp [intOf]; omega
        · obtain rfl : t = 64 := by omega
          have t1 : ¬ ((64 : Nat) : Int) < 64 := by decide
          have HW := Lib.hid hW
          have HBE := Lib.hid hbel
          have hg0 := (hbel.block g hgw).trans HG.out
          have HG0 := Lib.hid hg0
          have c0 := cell_of hg0 0 (v := .int .u32 (s.a : Int)) rfl
          have c1 := cell_of hg0 1 (v := .int .u32 (s.b : Int)) rfl
          have c2 := cell_of hg0 2 (v := .int .u32 (s.c : Int)) rfl
          have c3 := cell_of hg0 3 (v := .int .u32 (s.d : Int)) rfl
          have c4 := cell_of hg0 4 (v := .int .u32 (s.e : Int)) rfl
          have c5 := cell_of hg0 5 (v := .int .u32 (s.f : Int)) rfl
          have c6 := cell_of hg0 6 (v := .int .u32 (s.g : Int)) rfl
          have c7 := cell_of hg0 7 (v := .int .u32 (s.h : Int)) rfl
          have hgB := lt_of_heap hg0
          clear hW hbel hg0 ht ht16 ht64
          go_wp2_with fail
          go_quiet (fail)
          clear c0 c1 c2 c3 c4 c5 c6 c7
          go_wp2_with fail
          go_loopw [9, 10, 11, 12, 13, 14, 15, 16, 134] (fun va vb vc vd ve vf vg vh vt wr => ∃ t : Nat, t ≤ 64 ∧ vt = .int .i64 (t : Int) ∧ RunAt (s.run (sched l 48) t) va vb vc vd ve vf vg vh ∧ Below wB.heap.size wB wr) (fun _ _ _ _ _ _ _ _ vt _ => 64 - (intOf vt).toNat)
          case atStart => exact ⟨0, by omega, rfl, ⟨rfl, rfl, rfl, rfl, rfl, rfl, rfl, rfl⟩, belowN (Below.refl _ _) _⟩
          case round =>
            obtain ⟨t, ht, rfl, hR, hbel⟩ := hrel
            rename World => wC
            by_cases ht64 : t < 64
            · have t1 : (t : Int) < 64 := by omega
              have t00 : (0 : Int) ≤ (t : Int) := by omega
              have hok := HS.out.run (sched l 48) t
              have HRN := Lib.hid (show s.run (sched l 48) (t + 1) = (s.run (sched l 48) t).rnd (shaK.getD t 0) ((sched l 48).getD t 0) from rfl)
              generalize s.run (sched l 48) t = v at *
              obtain ⟨va, vb, vc, vd, ve, vf, vg, vh⟩ := v
              obtain ⟨rfl, rfl, rfl, rfl, rfl, rfl, rfl, rfl⟩ := hR
              obtain ⟨ha, hb, hc, hd, he, hf, hg, hh⟩ := hok
              simp only at ha hb hc hd he hf hg hh
              obtain ⟨tt, fr, hT⟩ := (HT.out.below HBE.out).below hbel
              have kw := cell_of (below_heap hbel HW.out) t (u32s_get _ _ (sched_end HL.out ht64))
              have kk := cell_of hT t (u32s_get _ _ (shaK_get ht64))
              generalize (sched l 48).getD t 0 = W at *
              generalize shaK.getD t 0 = K at *
              have HBC := Lib.hid hbel
              have hNC := lt_of_cell kw
              have hTC := lt_of_cell kk
              clear hbel hT
              have hx : (if IntKind.u32.signed = true then (-1 : Int) else IntKind.u32.max) = 4294967295 := rfl
              have g1 := bg1_bits he
              have g0 := bg0_bits ha
              have gc := ch_bits he hf hg
              have gm := mj_bits ha hb hc
              go_wp2_with fail
              refine wp_region_quiet_lit (by kernel_rfl) (by kernel_rfl) ?_
              repeat (go_big_quiet_step (fail))
              go_big_quiet_step ((go_at_call 155; exact Calls.quiet_of (turn_at ve 6 6 rfl he (by decide) (by decide) _)))
              repeat (go_big_quiet_step (fail))
              go_big_quiet_step ((go_at_call 155; exact Calls.quiet_of (turn_at ve 11 11 rfl he (by decide) (by decide) _)))
              repeat (go_big_quiet_step (fail))
              go_big_quiet_step ((go_at_call 155; exact Calls.quiet_of (turn_at ve 25 25 rfl he (by decide) (by decide) _)))
              repeat (go_big_quiet_step (fail))
              refine wpQuiet_nil ?_
              intro _ hw'
              obtain ⟨n2, hw''⟩ := hw'
              subst hw''
              go_wp2_with fail
              refine (turn_at va 2 2 rfl ha (by decide) (by decide) _).mono ?_
              rintro e' w' ⟨rfl, q1, rfl⟩
              go_wp2_with fail
              refine (turn_at va 13 13 rfl ha (by decide) (by decide) _).mono ?_
              rintro e' w' ⟨rfl, q2, rfl⟩
              go_wp2_with fail
              refine (turn_at va 22 22 rfl ha (by decide) (by decide) _).mono ?_
              rintro e' w' ⟨rfl, q3, rfl⟩
              go_wp2_with fail
              go_roundw
              case rel =>
                refine ⟨t + 1, by omega, by go_num, ?_, belowN HBC.out (n2 + q1 + q2 + q3)⟩
                rw [HRN.out]
                refine ⟨congrArg (Value.int .u32) ?_, rfl, rfl, rfl, congrArg (Value.int .u32) ?_, rfl, rfl, rfl⟩
                · simp only [St.rnd]
                  omega
                · simp only [St.rnd]
                  omega
              case measure => simp [intOf]; omega
            · obtain rfl : t = 64 := by omega
              have t1 : ¬ ((64 : Nat) : Int) < 64 := by decide
              have HOK := Lib.hid (HS.out.run (sched l 48) 64)
              have HBK := Lib.hid (show s.block l = s.add (s.run (sched l 48) 64) from rfl)
              generalize s.run (sched l 48) 64 = v at *
              obtain ⟨va, vb, vc, vd, ve, vf, vg, vh⟩ := v
              obtain ⟨rfl, rfl, rfl, rfl, rfl, rfl, rfl, rfl⟩ := hR
              have hg0 := below_heap hbel HG0.out
              have HG1 := Lib.hid hg0
              have HBC := Lib.hid (below_trans HBE.out hbel)
              clear hbel hg0 ht ht64
              have HIX := Lib.hid fun i (hi : i < 8) => run_idx8 va vb vc vd ve vf vg vh i hi
              have HM0 := Lib.hid (show wC.heap[g]? = some (.cells (u32s (mix (stL s) [va, vb, vc, vd, ve, vf, vg, vh] 0)) 180) from HG1.out)
              have HM8 := Lib.hid (show mix (stL s) [va, vb, vc, vd, ve, vf, vg, vh] 8 = stL (s.add ⟨va, vb, vc, vd, ve, vf, vg, vh⟩) from rfl)
              have O0 := Lib.hid (only_of_below HBC.out (some g))
              clear HG1 HBC HOK HG0 HBE HW HG HL HS HB HT
              go_wp2_with fail
              go_loopw [206] (fun vt wr => ∃ i : Nat, i ≤ 8 ∧ vt = .int .i64 (i : Int) ∧ wr.heap[g]? = some (.cells (u32s (mix (stL s) [va, vb, vc, vd, ve, vf, vg, vh] i)) 180) ∧ w.grownBy wr (some g)) (fun vt _ => 8 - (intOf vt).toNat)
              case atStart => exact ⟨0, by omega, rfl, HM0.out, O0.out⟩
              case round =>
                obtain ⟨i, hi, rfl, hM, hO⟩ := hrel
                rename World => wD
                by_cases hi8 : i < 8
                · have i1 : (i : Int) < 8 := by omega
                  have i0 : (0 : Int) ≤ (i : Int) := by omega
                  have hx := HIX.out i hi8
                  have ck := cell_of hM i (u32s_get _ _ (mix_get (stL s) [va, vb, vc, vd, ve, vf, vg, vh] hi8))
                  have fk := frozen_row hM i
                  have lk := lt_of_heap hM
                  have HMS := Lib.hid (mix_set (stL s) [va, vb, vc, vd, ve, vf, vg, vh] hi8)
                  have HMM := Lib.hid hM
                  have HOO := Lib.hid hO
                  clear hM hO HM0 HM8 O0 HIX
                  generalize (stL s).getD i 0 = x at *
                  generalize ([va, vb, vc, vd, ve, vf, vg, vh] : List Nat).getD i 0 = y at *
                  go_wp2_with fail
                  go_still_tail 9, (by kernel_rfl)
                  go_wp2_with fail
                  go_roundw
                  case rel =>
                    have h := set_heapS (i := i) (u := .int .u32 (((x + y) % 4294967296 : Nat) : Int)) HMM.out
                    rw [u32s_set, HMS.out] at h
                    refine ⟨i + 1, by omega, by go_num, ?_, only_drew (only_set HOO.out i _)⟩
                    rw [addM]
                    exact h
                  case measure => simp [intOf]; omega
                · obtain rfl : i = 8 := by omega
                  have i1 : ¬ ((8 : Nat) : Int) < 8 := by decide
                  have HMM := Lib.hid hM
                  have HOO := Lib.hid hO
                  clear hM hO HIX
                  go_wp2_with fail
                  go_end0
                  refine ⟨rfl, ?_, HOO.out⟩
                  rw [HBK.out, ← HM8.out]
                  exact HMM.out
end Go.Proofs.YticlgcfodlcpcaaGreatDoor
