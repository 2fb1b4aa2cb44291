/-
  cartularylaw01.Book over lists of texts: growText, walked.
-/
import Derived.Test.YtjmgkallgflcdaaGreatDoorBook3
namespace Go.Proofs.YtjmgkallgflcdaaGreatDoor
open Go.RowKit

set_option maxHeartbeats 2000000 in
set_option maxRecDepth 100000 in
theorem growText_any (w0 w : World) (B kb tb cap m : Nat) (V U : Nat → Value) (len : Nat → Nat) (hS : GrowS w0 B w kb tb cap m V U len 0 0) (hB : w0.heap.size ≤ B) (hBw : B ≤ w.heap.size) (hBt : w0.heap.size ≤ tb) (hkt : kb ≠ tb) (hsep : Sep kb tb m V) (hlen : ∀ j, j < m → len j ≤ 1048576) (hm : m ≤ 1000) (htab : Tab w0) :
    Calls Tryz.prog 63 #[.pointer (some ⟨kb, 0, none⟩)] w fun e w' => e = .returned (.tuple #[]) ∧ ∃ U', GrowS w0 B w' kb tb cap m V U' len m m := by
  have HS := Lib.hid hS
  have HSEP := Lib.hid hsep
  have HLEN := Lib.hid hlen
  have HTAB := Lib.hid htab
  clear hS hsep htab hlen
  go_enter Tryz.func63, Tryz.ntmps63
  go_wp2_with fail
  go_loopw [2] (fun vi wr => ∃ (i : Nat) (U' : Nat → Value), i ≤ m ∧ vi = .int .i64 i ∧ B ≤ wr.heap.size ∧ GrowS w0 B wr kb tb cap m V U' len i i) (fun vi _ => m - (intOf vi).toNat)
  case atStart => exact ⟨0, U, by omega, rfl, hBw, HS.out⟩
  case round =>
    obtain ⟨i, U', hi, rfl, hBr, hS⟩ := hrel
    have hbk := hS.bs.bk
    have HSI := Lib.hid hS
    by_cases hlt : i < m
    · have i0 : (0 : Int) ≤ (i : Int) := by omega
      have i1 : (i : Int) < (m : Int) := by omega
      obtain ⟨e0, e1, e2⟩ := hS.bs.it i hlt
      have hob : ∃ ao c, V i = .slice ao (len i) c := by
        rcases (hS.own i (Nat.le_refl _) hlt).2 with ⟨h, hn⟩ | ⟨g, c, cur, h, _⟩
        · exact ⟨none, 0, by rw [h, hn]⟩
        · exact ⟨_, _, h⟩
      obtain ⟨ao, c, hV⟩ := hob
      obtain ⟨uo, un, uc, hUi⟩ := hS.uf i hlt
      rw [hV] at e0
      rw [hUi] at e1
      have HV := Lib.hid hV
      have hli := HLEN.out i hlt
      clear hS hV hUi
      have ba : Below wr.heap.size wr (wr.alloc (.cells #[.slice ao (len i) c, .slice uo un uc, .int .i64 ((i : Int) + 1)] 126)) := (Below.refl _ _).alloc (Nat.le_refl _) _
      have hra : (wr.alloc (.cells #[.slice ao (len i) c, .slice uo un uc, .int .i64 ((i : Int) + 1)] 126)).heap[wr.heap.size]? = some (.cells #[.slice ao (len i) c, .slice uo un uc, .int .i64 ((i : Int) + 1)] 126 (0, 0)) := heap_alloc_new wr _
      have hsza : (wr.alloc (.cells #[.slice ao (len i) c, .slice uo un uc, .int .i64 ((i : Int) + 1)] 126)).heap.size = wr.heap.size + 1 := by simp
      have hst := grow_start (HSI.out.below ba) hlt wr.heap.size HSEP.out (fun g hg => by have := HSI.out.vlt i hlt g hg; omega)
      have HGA := Lib.hid hst.1
      have HLA := Lib.hid hst.2
      have HRA := Lib.hid hra
      clear ba hra hst
      have q0 : (wr.alloc (.cells #[.slice ao (len i) c, .slice uo un uc, .int .i64 ((i : Int) + 1)] 126)).cell? ⟨wr.heap.size, 0, none⟩ = some (.slice ao (len i) c) := by rw [cell_of_row _ _ 0 _ _ _ HRA.out]; rfl
      go_wp2_with fail
      generalize wr.alloc (.cells #[.slice ao (len i) c, .slice uo un uc, .int .i64 ((i : Int) + 1)] 126) = wa at *
      go_loopw [4, 5] (fun vl vs wq => ∃ (s : Nat) (u : Value), s ≤ 70 ∧ vs = .int .i64 s ∧ vl = u ∧ wa.heap.size ≤ wq.heap.size ∧ GrowS w0 B wq kb tb cap m V U' len i (i + 1) ∧ LongS B wq kb tb wr.heap.size m V U' len i s u ∧ wq.heap[wr.heap.size]? = some (.cells #[.slice ao (len i) c, .slice uo un uc, .int .i64 ((i : Int) + 1)] 126 (0, 0))) (fun _ vs _ => 70 - (intOf vs).toNat)
      case atStart => exact ⟨0, V i, by omega, rfl, HV.out.symm, Nat.le_refl _, HGA.out, HLA.out, HRA.out⟩
      case round =>
        rename World => wq
        obtain ⟨s, u, hs, rfl, rfl, hszq, hG, hL, hrq⟩ := hrel
        have HGQ := Lib.hid hG
        have HLQ := Lib.hid hL
        have HRQ := Lib.hid hrq
        have k2 : wq.cell? ⟨wr.heap.size, 2, none⟩ = some (.int .i64 ((i : Int) + 1)) := by rw [cell_of_row _ _ 2 _ _ _ hrq]; rfl
        by_cases hs7 : s < 70
        · have i3 : (s : Int) < 70 := by omega
          have HTQ := Lib.hid (tab_below HTAB.out hG.bel)
          clear hG hL hrq
          go_wp2_with fail
          refine (markText_any ((i : Int) + 1) (by omega) (by omega) _ HTQ.out).mono ?_
          rintro e w3 ⟨rfl, b3⟩
          have b4 : Below w3.heap.size w3 (w3.alloc (.cells #[markV i] 9)) := (Below.refl _ _).alloc (Nat.le_refl _) _
          have HG4 := Lib.hid ((HGQ.out.below b3).below b4)
          have HL4 := Lib.hid ((HLQ.out.below b3).below b4)
          have HR4 := Lib.hid (below_heap b4 (below_heap b3 HRQ.out))
          have hnew : (w3.alloc (.cells #[markV i] 9)).cell? ⟨w3.heap.size, 0, none⟩ = some (markV i) := by
            rw [cell_of_row _ _ 0 _ _ _ (heap_alloc_new w3 _)]
            rfl
          have hs4 : (w3.alloc (.cells #[markV i] 9)).heap.size = w3.heap.size + 1 := by simp
          have hsz3 := b3.size
          have HNEW := Lib.hid hnew
          clear b3 b4 hnew
          unfold markV at HNEW HG4 HL4 HR4
          go_wp2_with (at_builtin; refine wpList_append_one rfl (.tmp 28) (.tmp 32) rfl (B := B) (n := len i + s) rfl HL4.out.own rfl HNEW.out (by omega) (by have := hs4; unfold markV at this; omega) ?_)
          intro v' W5 g1 g2 g3 g4
          have hs5 : (w3.alloc (.cells #[.string (wordB ((i : Int) + 1))] 9)).heap.size = w3.heap.size + 1 := by simp
          generalize w3.alloc (.cells #[.string (wordB ((i : Int) + 1))] 9) = wb at *
          rw [← hs5] at g3 g4
          obtain ⟨j1, j2, j3⟩ := grow_append HG4.out (by omega) HL4.out hB (by omega) (by omega) g1 g2 g3 g4
          have HG5 := Lib.hid j1
          have HL5 := Lib.hid j2
          have HR5 := Lib.hid (j3.trans HR4.out)
          have hsz5 := g2.size
          clear j1 j2 j3 g1 g2 g3 g4
          go_wp2_with fail
          go_roundw
          case rel => exact ⟨s + 1, v', by omega, by go_num, rfl, by omega, HG5.out, HL5.out, HR5.out⟩
          case measure => simp [intOf]; omega
        · obtain rfl : s = 70 := by omega
          obtain ⟨g, c', rfl, hge⟩ := grow_end hG hL hlt hkt hBt HSEP.out
          have hbq := hG.bs.bk
          obtain ⟨x0, x1, x2⟩ := hG.bs.it i hlt
          have hfz := hG.fz (i * 3 + 1)
          have HGE := Lib.hid hge
          clear hG hL hrq hge x0 x2
          go_wp2_with fail
          go_roundw
          case rel => exact ⟨i + 1, _, by omega, by go_num, by simp; omega, HGE.out⟩
          case measure => simp [intOf]; omega
    · obtain rfl : i = m := by omega
      have i1 : ¬ (i : Int) < (i : Int) := by omega
      clear hS
      go_wp2_with fail
      go_end0
      exact ⟨rfl, U', HSI.out⟩
end Go.Proofs.YtjmgkallgflcdaaGreatDoor
