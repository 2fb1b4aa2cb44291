/-
  cartularylaw01.Book over lists of texts: lookText by its contract.
-/
import Derived.Test.YtjmgkallgflcdaaGreatDoorBook4
import Derived.Deep.RegionHeld3
namespace Go.Proofs.YtjmgkallgflcdaaGreatDoor
open Go.RowKit

/-- What is read while one place is looked at. -/
abbrev LookS (wq : World) (h ug t : Nat) (wd : ByteArray) (ao : Option Addr) (l c uc i : Nat) (W' : World) : Prop :=
  Below wq.heap.size wq W' ∧ W'.cell? ⟨h, 0, none⟩ = some (.slice ao l c) ∧ W'.cell? ⟨h, 1, none⟩ = some (.slice (some ⟨ug, 0, none⟩) (l + 70) uc) ∧ W'.cell? ⟨h, 2, none⟩ = some (.int .i64 ((i : Int) + 1)) ∧ W'.cell? ⟨ug, t, none⟩ = some (.string wd)
set_option maxHeartbeats 4000000 in
set_option maxRecDepth 100000 in
theorem lookText_any (w0 w : World) (B kb tb cap m : Nat) (V U : Nat → Value) (len : Nat → Nat) (hS : GrowS w0 B w kb tb cap m V U len m m) (hV : ∀ i, i < m → ∃ ao c, V i = .slice ao (len i) c ∧ (0 < len i → ∃ g, ao = some ⟨g, 0, none⟩)) (hlen : ∀ j, j < m → len j ≤ 1048576) (hm : m ≤ 1000) (htab : Tab w0) :
    Calls Tryz.prog 79 #[.pointer (some ⟨kb, 0, none⟩)] w fun e w' => e = .returned (.bool true) ∧ Below w.heap.size w w' := by
  have hbk := hS.bs.bk
  have HS := Lib.hid hS
  have HVF := Lib.hid hV
  have HLEN := Lib.hid hlen
  have HTAB := Lib.hid (tab_below htab hS.bel)
  clear hS htab hlen hV
  go_enter Tryz.func79, Tryz.ntmps79
  go_wp2_with fail
  go_loopw [3] (fun vi wr => ∃ i : Nat, i ≤ m ∧ vi = .int .i64 i ∧ Below w.heap.size w wr) (fun vi _ => m - (intOf vi).toNat)
  case atStart => exact ⟨0, by omega, rfl, Below.refl _ _⟩
  case round =>
    obtain ⟨i, hi, rfl, hbr⟩ := hrel
    have HSR := Lib.hid (HS.out.below hbr)
    have hbk := HSR.out.bs.bk
    have HBR := Lib.hid hbr
    clear hbr
    by_cases hlt : i < m
    · have i0 : (0 : Int) ≤ (i : Int) := by omega
      have i1 : (i : Int) < (m : Int) := by omega
      obtain ⟨e0, e1, e2⟩ := HSR.out.bs.it i hlt
      obtain ⟨ao, c, hV, hao⟩ := HVF.out i hlt
      obtain ⟨ug, uc, hU, hug, hul, _⟩ := HSR.out.lng i hlt
      rw [hV] at e0
      rw [hU] at e1
      have HV := Lib.hid hV
      have HAO := Lib.hid hao
      have HUL := Lib.hid hul
      have hli := HLEN.out i hlt
      clear hV hU hao hul
      have ba : Below wr.heap.size wr (wr.alloc (.cells #[.slice ao (len i) c, .slice (some ⟨ug, 0, none⟩) (len i + 70) uc, .int .i64 ((i : Int) + 1)] 126)) := (Below.refl _ _).alloc (Nat.le_refl _) _
      have hra : (wr.alloc (.cells #[.slice ao (len i) c, .slice (some ⟨ug, 0, none⟩) (len i + 70) uc, .int .i64 ((i : Int) + 1)] 126)).heap[wr.heap.size]? = some (.cells #[.slice ao (len i) c, .slice (some ⟨ug, 0, none⟩) (len i + 70) uc, .int .i64 ((i : Int) + 1)] 126 (0, 0)) := heap_alloc_new wr _
      have HRA := Lib.hid hra
      have HBA := Lib.hid ba
      have il : (((len i + 70 : Nat) : Int) != (len i : Int) + 70) = false := by simp
      have il' : (((len i : Int) + 70) != (len i : Int) + 70) = false := by simp
      clear ba hra
      go_wp2_with fail
      generalize wr.alloc (.cells #[.slice ao (len i) c, .slice (some ⟨ug, 0, none⟩) (len i + 70) uc, .int .i64 ((i : Int) + 1)] 126) = wa at *
      go_loopw [5] (fun vk wq => ∃ t : Nat, t ≤ len i + 70 ∧ vk = .int .i64 t ∧ Below wa.heap.size wa wq) (fun vk _ => len i + 70 - (intOf vk).toNat)
      case atStart => exact ⟨0, by omega, rfl, Below.refl _ _⟩
      case round =>
        rename World => wq
        obtain ⟨t, ht, rfl, hbq⟩ := hrel
        have hrq := below_heap hbq HRA.out
        have dq : Below wr.heap.size wr wq := below_trans HBA.out hbq
        have k0 : wq.cell? ⟨wr.heap.size, 0, none⟩ = some (.slice ao (len i) c) := by rw [cell_of_row _ _ 0 _ _ _ hrq]; rfl
        have k1 : wq.cell? ⟨wr.heap.size, 1, none⟩ = some (.slice (some ⟨ug, 0, none⟩) (len i + 70) uc) := by rw [cell_of_row _ _ 1 _ _ _ hrq]; rfl
        have k2 : wq.cell? ⟨wr.heap.size, 2, none⟩ = some (.int .i64 ((i : Int) + 1)) := by rw [cell_of_row _ _ 2 _ _ _ hrq]; rfl
        have HBQ := Lib.hid hbq
        by_cases htl : t < len i + 70
        · have i2 : (0 : Int) ≤ (t : Int) := by omega
          have i3 : (t : Int) < ((len i + 70 : Nat) : Int) := by omega
          have i3' : (t : Int) < (len i : Int) + 70 := by omega
          have kl : wq.cell? ⟨ug, t, none⟩ = some (.string (wordB ((i : Int) + 1))) := below_cell dq (HUL.out t htl)
          have HTQ := Lib.hid (tab_below HTAB.out (below_trans HBR.out dq))
          have HIT := Lib.hid (fun W (h : Below wq.heap.size wq W) => isText_any ((i : Int) + 1) (by omega) (by omega) W (tab_below HTQ.out h))
          by_cases hv : t < len i
          · obtain ⟨vg, rfl⟩ := HAO.out (by omega)
            have i4 : (t : Int) < (len i : Int) := by omega
            have kv : wq.cell? ⟨vg, t, none⟩ = some (.string (wordB ((i : Int) + 1))) := below_cell dq (HSR.out.rd i hlt vg t (by rw [HV.out]; rfl) hv)
            have hkeep : ∀ W', Below wq.heap.size wq W' → Below wq.heap.size wq W' ∧ W'.cell? ⟨wr.heap.size, 0, none⟩ = some (.slice (some ⟨vg, 0, none⟩) (len i) c) ∧ W'.cell? ⟨wr.heap.size, 1, none⟩ = some (.slice (some ⟨ug, 0, none⟩) (len i + 70) uc) ∧ W'.cell? ⟨wr.heap.size, 2, none⟩ = some (.int .i64 ((i : Int) + 1)) ∧ W'.cell? ⟨ug, t, none⟩ = some (.string (wordB ((i : Int) + 1))) ∧ W'.cell? ⟨vg, t, none⟩ = some (.string (wordB ((i : Int) + 1))) := fun W' hb => ⟨hb, below_cell hb k0, below_cell hb k1, below_cell hb k2, below_cell hb kl, below_cell hb kv⟩
            have HK := Lib.hid hkeep
            clear hkeep hrq dq hbq
            generalize wordB ((i : Int) + 1) = wd at *
            go_upto_region 10 with fail
            go_region_held3 (fun W' => Below wq.heap.size wq W' ∧ W'.cell? ⟨wr.heap.size, 0, none⟩ = some (.slice (some ⟨vg, 0, none⟩) (len i) c) ∧ W'.cell? ⟨wr.heap.size, 1, none⟩ = some (.slice (some ⟨ug, 0, none⟩) (len i + 70) uc) ∧ W'.cell? ⟨wr.heap.size, 2, none⟩ = some (.int .i64 ((i : Int) + 1)) ∧ W'.cell? ⟨ug, t, none⟩ = some (.string wd) ∧ W'.cell? ⟨vg, t, none⟩ = some (.string wd))
              (first | exact HK.out _ (Below.refl _ _) | exact HK.out _ (below_drewN (Below.refl _ _) 1) | exact HK.out _ hb4 | exact HK.out _ hb3)
              (first | (go_at_call 110; refine (HIT.out _ (below_drewN (Below.refl _ _) 1)).mono ?_; rintro e w3 ⟨rfl, b3⟩; have hb3 : Below wq.heap.size wq w3 := (below_drewN (Below.refl _ _) 1).trans b3) | (go_at_call 110; refine (HIT.out _ hb3).mono ?_; rintro e w4 ⟨rfl, b4⟩; have hb4 : Below wq.heap.size wq w4 := hb3.trans (b4.mono hb3.size)))
            simp only [Exit.then]
            go_wp2_with fail
            go_roundw
            case rel => exact ⟨t + 1, by omega, by go_num, HBQ.out.trans (hb4.mono HBQ.out.size)⟩
            case measure => simp [intOf]; omega
          · have i4 : ¬ (t : Int) < (len i : Int) := by omega
            have hkeep : ∀ W', Below wq.heap.size wq W' → Below wq.heap.size wq W' ∧ W'.cell? ⟨wr.heap.size, 0, none⟩ = some (.slice ao (len i) c) ∧ W'.cell? ⟨wr.heap.size, 1, none⟩ = some (.slice (some ⟨ug, 0, none⟩) (len i + 70) uc) ∧ W'.cell? ⟨wr.heap.size, 2, none⟩ = some (.int .i64 ((i : Int) + 1)) ∧ W'.cell? ⟨ug, t, none⟩ = some (.string (wordB ((i : Int) + 1))) := fun W' hb => ⟨hb, below_cell hb k0, below_cell hb k1, below_cell hb k2, below_cell hb kl⟩
            have HK := Lib.hid hkeep
            clear hkeep hrq dq hbq
            generalize wordB ((i : Int) + 1) = wd at *
            go_upto_region 10 with fail
            refine wp_region_held_drew (S := (fun W' => LookS wq wr.heap.size ug t wd ao (len i) c uc i W')) (by kernel_rfl) (HK.out _ (below_drewN (Below.refl _ _) 1)) (fun hHeld => ?_)
            refine wpAnyH_take (i := 0) (v := .pointer (some ⟨wr.heap.size, 1, none⟩)) rfl (by kernel_rfl) (by kernel_rfl) (by kernel_rfl) (fun _ _ _ h => h) (Or.inl ⟨by rfl, fun w hSw => ?_⟩) hHeld ?_
            · obtain ⟨_, s0, s1, s2, s3⟩ := hSw
              go_simp
            simp only [List.getElem_toArray, List.getElem_cons_zero, Act.put, List.setIfInBounds_toArray, List.set_cons_zero, List.set_cons_succ]
            refine wpAnyH_take (i := 1) (v := .slice (some ⟨ug, 0, none⟩) (len i + 70) uc) rfl (by kernel_rfl) (by kernel_rfl) (by kernel_rfl) (fun _ _ _ h => h) (Or.inl ⟨by rfl, fun w hSw => ?_⟩) hHeld ?_
            · obtain ⟨_, s0, s1, s2, s3⟩ := hSw
              go_simp
            simp only [List.getElem_toArray, List.getElem_cons_succ, List.getElem_cons_zero, Act.put, List.setIfInBounds_toArray, List.set_cons_zero, List.set_cons_succ]
            refine wpAnyH_take (i := 2) (v := .int .i64 (t : Int)) rfl (by kernel_rfl) (by kernel_rfl) (by kernel_rfl) (fun _ _ _ h => h) (Or.inl ⟨by rfl, fun w hSw => ?_⟩) hHeld ?_
            · obtain ⟨_, s0, s1, s2, s3⟩ := hSw
              go_simp
            simp only [List.getElem_toArray, List.getElem_cons_succ, List.getElem_cons_zero, Act.put, List.setIfInBounds_toArray, List.set_cons_zero, List.set_cons_succ]
            refine wpAnyH_take (i := 3) (v := .pointer (some ⟨ug, t, none⟩)) rfl (by kernel_rfl) (by kernel_rfl) (by kernel_rfl) (fun _ _ _ h => h) (Or.inl ⟨by rfl, fun w hSw => ?_⟩) hHeld ?_
            · obtain ⟨_, s0, s1, s2, s3⟩ := hSw
              go_simp
            simp only [List.getElem_toArray, List.getElem_cons_succ, List.getElem_cons_zero, Act.put, List.setIfInBounds_toArray, List.set_cons_zero, List.set_cons_succ]
            refine wpAnyH_take (i := 4) (v := .string wd) rfl (by kernel_rfl) (by kernel_rfl) (by kernel_rfl) (fun _ _ _ h => h) (Or.inl ⟨by rfl, fun w hSw => ?_⟩) hHeld ?_
            · obtain ⟨_, s0, s1, s2, s3⟩ := hSw
              go_simp
            simp only [List.getElem_toArray, List.getElem_cons_succ, List.getElem_cons_zero, Act.put, List.setIfInBounds_toArray, List.set_cons_zero, List.set_cons_succ]
            refine wpAnyH_take (i := 5) (v := .pointer (some ⟨wr.heap.size, 2, none⟩)) rfl (by kernel_rfl) (by kernel_rfl) (by kernel_rfl) (fun _ _ _ h => h) (Or.inl ⟨by rfl, fun w hSw => ?_⟩) hHeld ?_
            · obtain ⟨_, s0, s1, s2, s3⟩ := hSw
              go_simp
            simp only [List.getElem_toArray, List.getElem_cons_succ, List.getElem_cons_zero, Act.put, List.setIfInBounds_toArray, List.set_cons_zero, List.set_cons_succ]
            refine wpAnyH_take (i := 6) (v := .int .i64 ((i : Int) + 1)) rfl (by kernel_rfl) (by kernel_rfl) (by kernel_rfl) (fun _ _ _ h => h) (Or.inl ⟨by rfl, fun w hSw => ?_⟩) hHeld ?_
            · obtain ⟨_, s0, s1, s2, s3⟩ := hSw
              go_simp
            simp only [List.getElem_toArray, List.getElem_cons_succ, List.getElem_cons_zero, Act.put, List.setIfInBounds_toArray, List.set_cons_zero, List.set_cons_succ]
            refine wpAnyH_ready (rs := [7]) (by kernel_rfl) (by simp) ?_
            refine AllReadyH.cons rfl (fun K hK => ?_) AllReadyH.nil
            go_simp
            refine (HIT.out _ (below_drewN (Below.refl _ _) 1)).mono ?_
            rintro e w3 ⟨rfl, b3⟩
            have hb3 : Below wq.heap.size wq w3 := (below_drewN (Below.refl _ _) 1).trans b3
            go_wp2_with fail
            refine hK.out _ _ (HK.out _ hb3) (fun hHeld2 => ?_)
            clear hK K
            refine wpAnyH_take (i := 8) (v := .bool false) rfl (by kernel_rfl) (by kernel_rfl) (by kernel_rfl) (fun _ _ _ h => h) (Or.inl ⟨by rfl, fun w hSw => ?_⟩) hHeld2 ?_
            · obtain ⟨_, s0, s1, s2, s3⟩ := hSw
              go_simp
            simp only [List.getElem_toArray, List.getElem_cons_succ, List.getElem_cons_zero, Act.put, List.setIfInBounds_toArray, List.set_cons_zero, List.set_cons_succ]
            refine wpAnyH_take (i := 9) (v := .bool false) rfl (by kernel_rfl) (by kernel_rfl) (by kernel_rfl) (fun _ _ _ h => h) (Or.inl ⟨by rfl, fun w hSw => ?_⟩) hHeld2 ?_
            · obtain ⟨_, s0, s1, s2, s3⟩ := hSw
              go_simp
            simp only [List.getElem_toArray, List.getElem_cons_succ, List.getElem_cons_zero, Act.put, List.setIfInBounds_toArray, List.set_cons_zero, List.set_cons_succ]
            refine wpAnyH_take (i := 10) (v := .int .i64 (t : Int)) rfl (by kernel_rfl) (by kernel_rfl) (by kernel_rfl) (fun _ _ _ h => h) (Or.inl ⟨by rfl, fun w hSw => ?_⟩) hHeld2 ?_
            · obtain ⟨_, s0, s1, s2, s3⟩ := hSw
              go_simp
            simp only [List.getElem_toArray, List.getElem_cons_succ, List.getElem_cons_zero, Act.put, List.setIfInBounds_toArray, List.set_cons_zero, List.set_cons_succ]
            refine wpAnyH_take (i := 11) (v := .pointer (some ⟨wr.heap.size, 0, none⟩)) rfl (by kernel_rfl) (by kernel_rfl) (by kernel_rfl) (fun _ _ _ h => h) (Or.inl ⟨by rfl, fun w hSw => ?_⟩) hHeld2 ?_
            · obtain ⟨_, s0, s1, s2, s3⟩ := hSw
              go_simp
            simp only [List.getElem_toArray, List.getElem_cons_succ, List.getElem_cons_zero, Act.put, List.setIfInBounds_toArray, List.set_cons_zero, List.set_cons_succ]
            refine wpAnyH_take (i := 12) (v := .slice ao (len i) c) rfl (by kernel_rfl) (by kernel_rfl) (by kernel_rfl) (fun _ _ _ h => h) (Or.inl ⟨by rfl, fun w hSw => ?_⟩) hHeld2 ?_
            · obtain ⟨_, s0, s1, s2, s3⟩ := hSw
              go_simp
            simp only [List.getElem_toArray, List.getElem_cons_succ, List.getElem_cons_zero, Act.put, List.setIfInBounds_toArray, List.set_cons_zero, List.set_cons_succ]
            refine wpAnyH_take (i := 13) (v := .int .i64 (len i : Int)) rfl (by kernel_rfl) (by kernel_rfl) (by kernel_rfl) (fun _ _ _ h => h) (Or.inl ⟨by rfl, fun w hSw => ?_⟩) hHeld2 ?_
            · obtain ⟨_, s0, s1, s2, s3⟩ := hSw
              go_simp
            simp only [List.getElem_toArray, List.getElem_cons_succ, List.getElem_cons_zero, Act.put, List.setIfInBounds_toArray, List.set_cons_zero, List.set_cons_succ]
            refine wpAnyH_take (i := 14) (v := .bool false) rfl (by kernel_rfl) (by kernel_rfl) (by kernel_rfl) (fun _ _ _ h => h) (Or.inl ⟨by rfl, fun w hSw => ?_⟩) hHeld2 ?_
            · obtain ⟨_, s0, s1, s2, s3⟩ := hSw
              go_simp
            simp only [List.getElem_toArray, List.getElem_cons_succ, List.getElem_cons_zero, Act.put, List.setIfInBounds_toArray, List.set_cons_zero, List.set_cons_succ]
            refine wpAnyH_take (i := 15) (v := .bool false) rfl (by kernel_rfl) (by kernel_rfl) (by kernel_rfl) (fun _ _ _ h => h) (Or.inl ⟨by rfl, fun w hSw => ?_⟩) hHeld2 ?_
            · obtain ⟨_, s0, s1, s2, s3⟩ := hSw
              go_simp
            simp only [List.getElem_toArray, List.getElem_cons_succ, List.getElem_cons_zero, Act.put, List.setIfInBounds_toArray, List.set_cons_zero, List.set_cons_succ]
            refine wpAnyH_take (i := 16) (v := undef) rfl (by kernel_rfl) (by kernel_rfl) (by kernel_rfl) (fun _ _ _ h => h) (Or.inr ⟨by rfl, rfl⟩) hHeld2 ?_
            simp only [List.getElem_toArray, List.getElem_cons_succ, List.getElem_cons_zero, Act.put, List.setIfInBounds_toArray, List.set_cons_zero, List.set_cons_succ]
            refine wpAnyH_take (i := 17) (v := undef) rfl (by kernel_rfl) (by kernel_rfl) (by kernel_rfl) (fun _ _ _ h => h) (Or.inr ⟨by rfl, rfl⟩) hHeld2 ?_
            simp only [List.getElem_toArray, List.getElem_cons_succ, List.getElem_cons_zero, Act.put, List.setIfInBounds_toArray, List.set_cons_zero, List.set_cons_succ]
            refine wpAnyH_take (i := 18) (v := undef) rfl (by kernel_rfl) (by kernel_rfl) (by kernel_rfl) (fun _ _ _ h => h) (Or.inr ⟨by rfl, rfl⟩) hHeld2 ?_
            simp only [List.getElem_toArray, List.getElem_cons_succ, List.getElem_cons_zero, Act.put, List.setIfInBounds_toArray, List.set_cons_zero, List.set_cons_succ]
            refine wpAnyH_take (i := 19) (v := undef) rfl (by kernel_rfl) (by kernel_rfl) (by kernel_rfl) (fun _ _ _ h => h) (Or.inr ⟨by rfl, rfl⟩) hHeld2 ?_
            simp only [List.getElem_toArray, List.getElem_cons_succ, List.getElem_cons_zero, Act.put, List.setIfInBounds_toArray, List.set_cons_zero, List.set_cons_succ]
            refine wpAnyH_take (i := 20) (v := undef) rfl (by kernel_rfl) (by kernel_rfl) (by kernel_rfl) (fun _ _ _ h => h) (Or.inr ⟨by rfl, rfl⟩) hHeld2 ?_
            simp only [List.getElem_toArray, List.getElem_cons_succ, List.getElem_cons_zero, Act.put, List.setIfInBounds_toArray, List.set_cons_zero, List.set_cons_succ]
            refine wpAnyH_take (i := 21) (v := undef) rfl (by kernel_rfl) (by kernel_rfl) (by kernel_rfl) (fun _ _ _ h => h) (Or.inr ⟨by rfl, rfl⟩) hHeld2 ?_
            simp only [List.getElem_toArray, List.getElem_cons_succ, List.getElem_cons_zero, Act.put, List.setIfInBounds_toArray, List.set_cons_zero, List.set_cons_succ]
            refine wpAnyH_take (i := 22) (v := undef) rfl (by kernel_rfl) (by kernel_rfl) (by kernel_rfl) (fun _ _ _ h => h) (Or.inr ⟨by rfl, rfl⟩) hHeld2 ?_
            simp only [List.getElem_toArray, List.getElem_cons_succ, List.getElem_cons_zero, Act.put, List.setIfInBounds_toArray, List.set_cons_zero, List.set_cons_succ]
            refine wpAnyH_take (i := 23) (v := undef) rfl (by kernel_rfl) (by kernel_rfl) (by kernel_rfl) (fun _ _ _ h => h) (Or.inr ⟨by rfl, rfl⟩) hHeld2 ?_
            simp only [List.getElem_toArray, List.getElem_cons_succ, List.getElem_cons_zero, Act.put, List.setIfInBounds_toArray, List.set_cons_zero, List.set_cons_succ]
            refine wpAnyH_take (i := 24) (v := undef) rfl (by kernel_rfl) (by kernel_rfl) (by kernel_rfl) (fun _ _ _ h => h) (Or.inr ⟨by rfl, rfl⟩) hHeld2 ?_
            simp only [List.getElem_toArray, List.getElem_cons_succ, List.getElem_cons_zero, Act.put, List.setIfInBounds_toArray, List.set_cons_zero, List.set_cons_succ]
            refine wpAnyH_take (i := 25) (v := .bool false) rfl (by kernel_rfl) (by kernel_rfl) (by kernel_rfl) (fun _ _ _ h => h) (Or.inl ⟨by rfl, fun w hSw => ?_⟩) hHeld2 ?_
            · obtain ⟨_, s0, s1, s2, s3⟩ := hSw
              go_simp
            simp only [List.getElem_toArray, List.getElem_cons_succ, List.getElem_cons_zero, Act.put, List.setIfInBounds_toArray, List.set_cons_zero, List.set_cons_succ]
            refine wpAnyH_take (i := 26) (v := .bool false) rfl (by kernel_rfl) (by kernel_rfl) (by kernel_rfl) (fun _ _ _ h => h) (Or.inl ⟨by rfl, fun w hSw => ?_⟩) hHeld2 ?_
            · obtain ⟨_, s0, s1, s2, s3⟩ := hSw
              go_simp
            simp only [List.getElem_toArray, List.getElem_cons_succ, List.getElem_cons_zero, Act.put, List.setIfInBounds_toArray, List.set_cons_zero, List.set_cons_succ]
            refine wpAnyH_done (by kernel_rfl) ?_ _
            simp only [Exit.then]
            go_wp2_with fail
            go_roundw
            case rel => exact ⟨t + 1, by omega, by go_num, HBQ.out.trans (hb3.mono HBQ.out.size)⟩
            case measure => simp [intOf]; omega
        · obtain rfl : t = len i + 70 := by omega
          have i3 : ¬ ((len i + 70 : Nat) : Int) < ((len i + 70 : Nat) : Int) := by omega
          have i3' : ¬ (len i : Int) + 70 < (len i : Int) + 70 := by omega
          have HDQ := Lib.hid (HBR.out.trans (dq.mono HBR.out.size))
          clear hrq dq hbq
          go_wp2_with fail
          go_roundw
          case rel => exact ⟨i + 1, by omega, by go_num, HDQ.out⟩
          case measure => simp [intOf]; omega
    · obtain rfl : i = m := by omega
      have i1 : ¬ (i : Int) < (i : Int) := by omega
      go_wp2_with fail
      go_ret
      exact ⟨rfl, HBR.out⟩
end Go.Proofs.YtjmgkallgflcdaaGreatDoor
