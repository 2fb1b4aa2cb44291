/-
  cartularylaw01.Book over lists of tiles: grow and look by their contracts (printed by wip/genbookg.py).
-/
import Derived.Test.YtlahdjdbbfjadaaGreatDoorBookFTi
namespace Go.Proofs.YtlahdjdbbfjadaaGreatDoor
open Go.RowKit

set_option maxHeartbeats 2000000 in
set_option maxRecDepth 100000 in
theorem grow_anyTi (w0 w : World) (B kb tb cap m : Nat) (V U : Nat → Value) (len : Nat → Nat) (hS : GrowSTi w0 B w kb tb cap m V U len 0 0) (hB : w0.heap.size ≤ B) (hBw : B ≤ w.heap.size) (hBt : w0.heap.size ≤ tb) (hkt : kb ≠ tb) (hsep : SepTi kb tb m V) (hlen : ∀ j, j < m → len j ≤ 1048576) (hm : m ≤ 2) :
    Calls Tryz.prog 59 #[.pointer (some ⟨kb, 0, none⟩)] w fun e w' => e = .returned (.tuple #[]) ∧ ∃ U', GrowSTi w0 B w' kb tb cap m V U' len m m := by
  have HS := Lib.hid hS
  have HSEP := Lib.hid hsep
  have HLEN := Lib.hid hlen
  clear hS hsep hlen
  go_enter Tryz.func59, Tryz.ntmps59
  go_wp2_with fail
  go_loopw [2] (fun vi wr => ∃ (i : Nat) (U' : Nat → Value), i ≤ m ∧ vi = .int .i64 i ∧ B ≤ wr.heap.size ∧ GrowSTi w0 B wr kb tb cap m V U' len i i) (fun vi _ => m - (intOf vi).toNat)
  case atStart => exact ⟨0, U, by omega, rfl, hBw, HS.out⟩
  case round =>
    obtain ⟨i, U', hi, rfl, hBr, hS⟩ := hrel
    have hbk := hS.bs.bk
    have HSI := Lib.hid hS
    by_cases hlt : i < m
    · have i0 : (0 : Int) ≤ (i : Int) := by omega
      have i1 : (i : Int) < (m : Int) := by omega
      obtain ⟨e0, e1, e2⟩ := hS.bs.it i hlt
      have hob : ∃ ao c, V i = .slice ao (len i) c := by
        rcases (hS.own i (Nat.le_refl _) hlt).2 with ⟨h, hn⟩ | ⟨g, c, cur, h, _⟩
        · exact ⟨none, 0, by rw [h, hn]⟩
        · exact ⟨_, _, h⟩
      obtain ⟨ao, c, hV⟩ := hob
      obtain ⟨uo, un, uc, hUi⟩ := hS.uf i hlt
      rw [hV] at e0
      rw [hUi] at e1
      have HV := Lib.hid hV
      have hli := HLEN.out i hlt
      clear hS hV hUi
      have ba : Below wr.heap.size wr (wr.alloc (.cells #[.slice ao (len i) c, .slice uo un uc, .int .i64 ((i : Int) + 1)] 143)) := (Below.refl _ _).alloc (Nat.le_refl _) _
      have hra : (wr.alloc (.cells #[.slice ao (len i) c, .slice uo un uc, .int .i64 ((i : Int) + 1)] 143)).heap[wr.heap.size]? = some (.cells #[.slice ao (len i) c, .slice uo un uc, .int .i64 ((i : Int) + 1)] 143 (0, 0)) := heap_alloc_new wr _
      have hsza : (wr.alloc (.cells #[.slice ao (len i) c, .slice uo un uc, .int .i64 ((i : Int) + 1)] 143)).heap.size = wr.heap.size + 1 := by simp
      have hst := grow_startTi (HSI.out.below ba) hlt wr.heap.size HSEP.out (fun g hg => by have := HSI.out.vlt i hlt g hg; omega)
      have HGA := Lib.hid hst.1
      have HLA := Lib.hid hst.2
      have HRA := Lib.hid hra
      clear ba hra hst
      have q0 : (wr.alloc (.cells #[.slice ao (len i) c, .slice uo un uc, .int .i64 ((i : Int) + 1)] 143)).cell? ⟨wr.heap.size, 0, none⟩ = some (.slice ao (len i) c) := by rw [cell_of_row _ _ 0 _ _ _ HRA.out]; rfl
      go_wp2_with fail
      generalize wr.alloc (.cells #[.slice ao (len i) c, .slice uo un uc, .int .i64 ((i : Int) + 1)] 143) = wa at *
      go_loopw [4, 5] (fun vl vs wq => ∃ (s : Nat) (u : Value), s ≤ 70 ∧ vs = .int .i64 s ∧ vl = u ∧ wa.heap.size ≤ wq.heap.size ∧ GrowSTi w0 B wq kb tb cap m V U' len i (i + 1) ∧ LongSTi B wq kb tb wr.heap.size m V U' len i s u ∧ wq.heap[wr.heap.size]? = some (.cells #[.slice ao (len i) c, .slice uo un uc, .int .i64 ((i : Int) + 1)] 143 (0, 0))) (fun _ vs _ => 70 - (intOf vs).toNat)
      case atStart => exact ⟨0, V i, by omega, rfl, HV.out.symm, Nat.le_refl _, HGA.out, HLA.out, HRA.out⟩
      case round =>
        rename World => wq
        obtain ⟨s, u, hs, rfl, rfl, hszq, hG, hL, hrq⟩ := hrel
        have HGQ := Lib.hid hG
        have HLQ := Lib.hid hL
        have HRQ := Lib.hid hrq
        have k2 : wq.cell? ⟨wr.heap.size, 2, none⟩ = some (.int .i64 ((i : Int) + 1)) := by rw [cell_of_row _ _ 2 _ _ _ hrq]; rfl
        by_cases hs7 : s < 70
        · have i3 : (s : Int) < 70 := by omega
          have hl32 : (mkTi i).length = 3 := mk_lenTi i
          have hfold := fold_all (mkTi i) #[.int .u8 0, .int .u64 0, .int .i64 0] (by rw [mk_lenTi]; rfl)
          clear hG hL hrq
          go_wp2_with fail
          refine (mark_anyTi i (by omega) _).mono ?_
          first
            | rintro e w3 rfl b3
            | rintro e w3 ⟨rfl, b3⟩
          have b4 : Below w3.heap.size w3 (w3.alloc (.cells (mkTi i).toArray 93)) := (Below.refl _ _).alloc (Nat.le_refl _) _
          have HG4 := Lib.hid ((HGQ.out.below b3).below b4)
          have HL4 := Lib.hid ((HLQ.out.below b3).below b4)
          have HR4 := Lib.hid (below_heap b4 (below_heap b3 HRQ.out))
          have HNEW := Lib.hid (show ∀ j u, (mkTi i)[j]? = some u → (w3.alloc (.cells (mkTi i).toArray 93)).cell? ((⟨w3.heap.size, 0, none⟩ : Addr).add j) = some u from fun j u hj => by
            rw [addr0Ti]
            exact cell_of (heap_one w3 _) j (by rw [List.getElem?_toArray]; exact hj))
          have hs4 : (w3.alloc (.cells (mkTi i).toArray 93)).heap.size = w3.heap.size + 1 := by simp
          have hsz3 := b3.size
          clear b3 b4
          go_wp2_with (at_builtin; refine wpList_append_oneTi rfl (.tmp 28) (.tmp 32) rfl (B := B) (n := len i + s) rfl HL4.out.own rfl (mk_lenTi i) (mk_oneTi i) HNEW.out (by omega) (by have := hs4; omega) ?_)
          intro v' W5 g1 g2 g3 g4
          have hs5 : (w3.alloc (.cells (mkTi i).toArray 93)).heap.size = w3.heap.size + 1 := by simp
          clear hfold hl32
          generalize w3.alloc (.cells (mkTi i).toArray 93) = wb at *
          rw [← hs5] at g3 g4
          obtain ⟨j1, j2, j3⟩ := grow_appendTi HG4.out (by omega) HL4.out hB (by omega) (by omega) g1 g2 g3 g4
          have HG5 := Lib.hid j1
          have HL5 := Lib.hid j2
          have HR5 := Lib.hid (j3.trans HR4.out)
          have hsz5 := g2.size
          clear j1 j2 j3 g1 g2 g3 g4
          go_wp2_with fail
          go_roundw
          case rel => exact ⟨s + 1, v', by omega, by go_num, rfl, by omega, HG5.out, HL5.out, HR5.out⟩
          case measure => simp [intOf]; omega
        · obtain rfl : s = 70 := by omega
          obtain ⟨g, c', rfl, hge⟩ := grow_endTi hG hL hlt hkt hBt HSEP.out
          have hbq := hG.bs.bk
          obtain ⟨x0, x1, x2⟩ := hG.bs.it i hlt
          have hfz := hG.bs.fz (i * 3 + 1)
          have HGE := Lib.hid hge
          clear hG hL hrq hge x0 x2
          go_wp2_with fail
          go_roundw
          case rel => exact ⟨i + 1, _, by omega, by go_num, by simp; omega, HGE.out⟩
          case measure => simp [intOf]; omega
    · obtain rfl : i = m := by omega
      have i1 : ¬ (i : Int) < (i : Int) := by omega
      clear hS
      go_wp2_with fail
      go_end0
      exact ⟨rfl, U', HSI.out⟩

/-- An element is read, in any such world. -/
theorem wpQuiet_loadTi {ops : Array Oper} {W : World} {Q : Act → Prop} {rest : List Oper} {a : Act} {o : Oper} (hw : Region.wanted o (yielded ops a.tmps) = true) (x : Operand) (ho : o.op = .load 93 x)
    (g off : Nat) (hx : a.eval x = .pointer (some ⟨g, off, none⟩)) (l : List Value) (hl : l.length = 3) (hr : W.rangeAt g off l)
    (h : wpQuiet Tryz.prog ops (fun w' => ∃ x : Kept W, w' = x.w) Q rest (a.put o.dst (.agg l.toArray))) : wpQuiet Tryz.prog ops (fun w' => ∃ x : Kept W, w' = x.w) Q (o :: rest) a :=
  wpQuiet_step fun K hK => by
    rw [if_pos hw]
    refine ⟨.agg l.toArray, fun w hw => ?_, hK _ h⟩
    obtain ⟨y, rfl⟩ := hw
    have hr' : y.w.rangeAt g off l := range_belowTi y.below hr
    unfold Oper.quietAt execOp
    simp only [ho, hx, Instr.loadAt, Instr.sureAddr, Sem.run_bind, Sem.run_pure, Result.andThen_ok, run_loadVar_mid y.w g off 93 l _ hr' Tryz.underlying93 rfl (by rw [infoETi, hl])]
    exact ⟨rfl, rfl⟩
set_option maxHeartbeats 4000000 in
set_option maxRecDepth 100000 in
theorem look_anyTi (w0 w : World) (B kb tb cap m : Nat) (V U : Nat → Value) (len : Nat → Nat) (hS : GrowSTi w0 B w kb tb cap m V U len m m) (hV : ∀ i, i < m → ∃ ao c, V i = .slice ao (len i) c ∧ (0 < len i → ∃ g, ao = some ⟨g, 0, none⟩)) (hlen : ∀ j, j < m → len j ≤ 1048576) (hm : m ≤ 2) :
    Calls Tryz.prog 75 #[.pointer (some ⟨kb, 0, none⟩)] w fun e w' => e = .returned (.bool true) ∧ Below w.heap.size w w' := by
  have hbk := hS.bs.bk
  have HS := Lib.hid hS
  have HVF := Lib.hid hV
  have HLEN := Lib.hid hlen
  clear hS hlen hV
  go_enter Tryz.func75, Tryz.ntmps75
  go_wp2_with fail
  go_loopw [3] (fun vi wr => ∃ i : Nat, i ≤ m ∧ vi = .int .i64 i ∧ Below w.heap.size w wr) (fun vi _ => m - (intOf vi).toNat)
  case atStart => exact ⟨0, by omega, rfl, Below.refl _ _⟩
  case round =>
    obtain ⟨i, hi, rfl, hbr⟩ := hrel
    have HSR := Lib.hid (HS.out.below hbr)
    have hbk := HSR.out.bs.bk
    have HBR := Lib.hid hbr
    clear hbr
    by_cases hlt : i < m
    · have i0 : (0 : Int) ≤ (i : Int) := by omega
      have i1 : (i : Int) < (m : Int) := by omega
      obtain ⟨e0, e1, e2⟩ := HSR.out.bs.it i hlt
      obtain ⟨ao, c, hV, hao⟩ := HVF.out i hlt
      obtain ⟨ug, uc, hU, hug, hul, _⟩ := HSR.out.lng i hlt
      rw [hV] at e0
      rw [hU] at e1
      have HV := Lib.hid hV
      have HAO := Lib.hid hao
      have HUL := Lib.hid hul
      have hli := HLEN.out i hlt
      clear hV hU hao hul
      have ba : Below wr.heap.size wr (wr.alloc (.cells #[.slice ao (len i) c, .slice (some ⟨ug, 0, none⟩) (len i + 70) uc, .int .i64 ((i : Int) + 1)] 143)) := (Below.refl _ _).alloc (Nat.le_refl _) _
      have hra : (wr.alloc (.cells #[.slice ao (len i) c, .slice (some ⟨ug, 0, none⟩) (len i + 70) uc, .int .i64 ((i : Int) + 1)] 143)).heap[wr.heap.size]? = some (.cells #[.slice ao (len i) c, .slice (some ⟨ug, 0, none⟩) (len i + 70) uc, .int .i64 ((i : Int) + 1)] 143 (0, 0)) := heap_alloc_new wr _
      have HRA := Lib.hid hra
      have HBA := Lib.hid ba
      have il : (((len i + 70 : Nat) : Int) != (len i : Int) + 70) = false := by simp
      have il' : (((len i : Int) + 70) != (len i : Int) + 70) = false := by simp
      clear ba hra
      go_wp2_with fail
      generalize wr.alloc (.cells #[.slice ao (len i) c, .slice (some ⟨ug, 0, none⟩) (len i + 70) uc, .int .i64 ((i : Int) + 1)] 143) = wa at *
      go_loopw [5] (fun vk wq => ∃ t : Nat, t ≤ len i + 70 ∧ vk = .int .i64 t ∧ Below wa.heap.size wa wq) (fun vk _ => len i + 70 - (intOf vk).toNat)
      case atStart => exact ⟨0, by omega, rfl, Below.refl _ _⟩
      case round =>
        rename World => wq
        obtain ⟨t, ht, rfl, hbq⟩ := hrel
        have hrq := below_heap hbq HRA.out
        have dq : Below wr.heap.size wr wq := below_trans HBA.out hbq
        have k0 : wq.cell? ⟨wr.heap.size, 0, none⟩ = some (.slice ao (len i) c) := by rw [cell_of_row _ _ 0 _ _ _ hrq]; rfl
        have k1 : wq.cell? ⟨wr.heap.size, 1, none⟩ = some (.slice (some ⟨ug, 0, none⟩) (len i + 70) uc) := by rw [cell_of_row _ _ 1 _ _ _ hrq]; rfl
        have k2 : wq.cell? ⟨wr.heap.size, 2, none⟩ = some (.int .i64 ((i : Int) + 1)) := by rw [cell_of_row _ _ 2 _ _ _ hrq]; rfl
        have khq : wr.heap.size < wq.heap.size := lt_of_heap hrq
        have HBQ := Lib.hid hbq
        by_cases htl : t < len i + 70
        · have i2 : (0 : Int) ≤ (t : Int) := by omega
          have i3 : (t : Int) < ((len i + 70 : Nat) : Int) := by omega
          have i3' : (t : Int) < (len i : Int) + 70 := by omega
          have KL := Lib.hid (show wq.rangeAt ug (t * 3) (mkTi i) from range_belowTi dq (HUL.out t htl))
          by_cases hv : t < len i
          · obtain ⟨vg, rfl⟩ := HAO.out (by omega)
            have i4 : (t : Int) < (len i : Int) := by omega
            have KV := Lib.hid (show wq.rangeAt vg (t * 3) (mkTi i) from range_belowTi dq (HSR.out.rd i hlt vg t (by rw [HV.out]; rfl) hv))
            clear hrq dq hbq
            go_upto_region 10 with fail
            refine wp_region_kept (by kernel_rfl) (by kernel_rfl) ?_
            iterate 4 go_big_quiet_step (fail)
            refine wpQuiet_loadTi (by rfl) (.tmp 40) (by rfl) ug (t * 3) (by rfl) (mkTi i) (mk_lenTi i) KL.out ?_
            simp only [Act.put, List.setIfInBounds_toArray, List.set_cons_zero, List.set_cons_succ]
            iterate 2 go_big_quiet_step (fail)
            go_big_quiet_step ((go_at_call 117; rename Kept _ => x; exact Kept.call (is_anyTi i (by omega) x.w)))
            iterate 12 go_big_quiet_step (fail)
            refine wpQuiet_loadTi (by rfl) (.tmp 56) (by rfl) vg (t * 3) (by rfl) (mkTi i) (mk_lenTi i) KV.out ?_
            simp only [Act.put, List.setIfInBounds_toArray, List.set_cons_zero, List.set_cons_succ]
            iterate 2 go_big_quiet_step (fail)
            go_big_quiet_step ((go_at_call 117; rename Kept _ => x; exact Kept.call (is_anyTi i (by omega) x.w)))
            iterate 3 go_big_quiet_step (fail)
            refine wpQuiet_nil ?_
            intro x
            have HBX := Lib.hid (HBQ.out.trans (x.below.mono HBQ.out.size))
            clear k0 k1 k2
            go_wp2_with fail
            go_roundw
            case rel => exact ⟨t + 1, by omega, by go_num, HBX.out⟩
            case measure => simp [intOf]; omega
          · have i4 : ¬ (t : Int) < (len i : Int) := by omega
            clear hrq dq hbq
            go_upto_region 10 with fail
            refine wp_region_kept (by kernel_rfl) (by kernel_rfl) ?_
            iterate 4 go_big_quiet_step (fail)
            refine wpQuiet_loadTi (by rfl) (.tmp 40) (by rfl) ug (t * 3) (by rfl) (mkTi i) (mk_lenTi i) KL.out ?_
            simp only [Act.put, List.setIfInBounds_toArray, List.set_cons_zero, List.set_cons_succ]
            iterate 2 go_big_quiet_step (fail)
            go_big_quiet_step ((go_at_call 117; rename Kept _ => x; exact Kept.call (is_anyTi i (by omega) x.w)))
            iterate 19 go_big_quiet_step (fail)
            refine wpQuiet_nil ?_
            intro x
            have HBX := Lib.hid (HBQ.out.trans (x.below.mono HBQ.out.size))
            clear k0 k1 k2
            go_wp2_with fail
            go_roundw
            case rel => exact ⟨t + 1, by omega, by go_num, HBX.out⟩
            case measure => simp [intOf]; omega
        · obtain rfl : t = len i + 70 := by omega
          have i3 : ¬ ((len i + 70 : Nat) : Int) < ((len i + 70 : Nat) : Int) := by omega
          have i3' : ¬ (len i : Int) + 70 < (len i : Int) + 70 := by omega
          have HDQ := Lib.hid (HBR.out.trans (dq.mono HBR.out.size))
          clear hrq dq hbq
          go_wp2_with fail
          go_roundw
          case rel => exact ⟨i + 1, by omega, by go_num, HDQ.out⟩
          case measure => simp [intOf]; omega
    · obtain rfl : i = m := by omega
      have i1 : ¬ (i : Int) < (i : Int) := by omega
      go_wp2_with fail
      go_ret
      exact ⟨rfl, HBR.out⟩
end Go.Proofs.YtlahdjdbbfjadaaGreatDoor
