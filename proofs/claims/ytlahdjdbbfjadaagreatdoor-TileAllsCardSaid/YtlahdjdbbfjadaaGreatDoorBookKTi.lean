/-
  cartularylaw01.Book: a list of tiles put in (out of the text for texts; printed by wip/genbookg.py).
-/
import Derived.Test.YtlahdjdbbfjadaaGreatDoorBookFTi
import Derived.Deep.RegionWith
import Derived.Deep.MidRow
import Derived.Maps.AppendAt
namespace Go.Proofs.YtlahdjdbbfjadaaGreatDoor
open Go.RowKit

theorem infoHeldTi : (Tryz.prog.info? 143).map (fun i => (i.zero, i.size, i.bytes)) = some (some (.agg #[.slice none 0 0, .slice none 0 0, .int .i64 0]), 3, 56) := by kernel_rfl
def heldCellsTi (V : Nat → Value) (m : Nat) : List Value := (List.range m).flatMap fun i => [V i, .slice none 0 0, .int .i64 ((i : Int) + 1)]
theorem heldCells_succTi (V : Nat → Value) (m : Nat) : heldCellsTi V (m + 1) = heldCellsTi V m ++ [V m, .slice none 0 0, .int .i64 ((m : Int) + 1)] := by
  unfold heldCellsTi
  rw [List.range_succ, List.flatMap_append]
  simp
/-- The book while lists are put in. -/
structure KeepSTi (w0 w : World) (kb m : Nat) (tv : Value) (V : Nat → Value) : Prop where
  bel : Below w0.heap.size w0 w
  n : w.cell? ⟨kb, 0, none⟩ = some (.int .i64 (m : Int))
  tx : w.cell? ⟨kb, 9, none⟩ = some tv
  nl : ∀ j, 1 ≤ j → j ≤ 16 → j ≠ 9 → w.cell? ⟨kb, j, none⟩ = some (.slice none 0 0)
  fz : ∀ j, w.frozen? ⟨kb, j, none⟩ = false
  lt : w0.heap.size ≤ kb ∧ kb < w.heap.size
  own : w.ownsRow (kb + 1) 143 3 tv m (heldCellsTi V m)
theorem step_append_heldTi {ops : Array Oper} {o : Oper} {a : Act} {K : Act → World → Prop} {Q : Exit → Act → World → Prop} {E : Prop} (hgd : o.guard = none) (s x : Operand)
    (ho : o.op = .call { callee := .builtin .append, args := #[s, x], argTypes := #[47, 47] }) {W : World} {B m : Nat} {v : Value} {xs news : List Value} {ad : Addr}
    (hs : a.eval s = v) (hown : W.ownsRow B 143 3 v m xs) (hx : a.eval x = .slice (some ad) 1 1) (hl : news.length = 3) (hnews : ∀ j u, news[j]? = some u → W.cell? (ad.add j) = some u) (h1 : ∀ u ∈ news, u.oneCell' = true) (hm : m ≤ 1000) (hB : B ≤ W.heap.size)
    (h : ∀ v' W', W'.ownsRow B 143 3 v' (m + 1) (xs ++ news) → W.grownBy W' v.ownBlock → K (a.put o.dst v') W') :
    if Region.wanted o (yielded ops a.tmps) = true then Oper.wp Tryz.prog o a W K Q else E := by
  have hw : Region.wanted o (yielded ops a.tmps) = true := by simp [Region.wanted, hgd]
  rw [if_pos hw]
  obtain ⟨i0, hi, hz⟩ := Option.map_eq_some_iff.1 infoHeldTi
  simp only [Prod.mk.injEq] at hz
  obtain ⟨hz0, hz1, hz2⟩ := hz
  obtain ⟨v', W', hr, h2, h3, _, _⟩ := run_append_own_at (P := Tryz.prog) W B 47 o.type 143 i0 _ 3 56 Tryz.underlying47 hi hz0 hz1 hz2 rfl (by decide) v m xs hown ad 1 1 news hl hnews h1 (by unfold maxLen; omega) (by omega) hB
  unfold Oper.wp execOp
  simp only [ho, resolve, invoke, builtin, Sem.run_bind, Sem.run_pure, Result.andThen_ok, List.map_toArray, List.map_cons, List.map_nil, hs, hx, hr]
  exact h v' W' h2 h3
theorem keep_allocTi {w : World} {v : Value} {m : Nat} : ∀ j u, [v, Value.slice none 0 0, .int .i64 ((m : Int) + 1)][j]? = some u → (w.alloc (.cells #[v, .slice none 0 0, .int .i64 ((m : Int) + 1)] 143)).cell? ((⟨w.heap.size, 0, none⟩ : Addr).add j) = some u := fun j u hj => by
  have ha : (⟨w.heap.size, 0, none⟩ : Addr).add j = ⟨w.heap.size, j, none⟩ := by simp [Addr.add]; intro h; exact h.symm
  rw [ha, cell_of_row _ _ j _ _ _ (heap_alloc_new w _)]
  simpa using hj
/-- What the call leaves. -/
theorem keep_endTi {w0 w Wd W5 : World} {kb m : Nat} {tv v' : Value} {V : Nat → Value} (hS : KeepSTi w0 w kb m tv V) (hbelow : Below (w.setCell ⟨kb, 0, none⟩ (.int .i64 ((m : Int) + 1))).heap.size (w.setCell ⟨kb, 0, none⟩ (.int .i64 ((m : Int) + 1))) Wd)
    (h2 : W5.ownsRow (kb + 1) 143 3 v' (m + 1) (heldCellsTi V m ++ [V m, .slice none 0 0, .int .i64 ((m : Int) + 1)])) (h3 : Wd.grownBy W5 tv.ownBlock) :
    (∃ u, W5.cell? ⟨kb, 9, none⟩ = some u) ∧ W5.frozen? ⟨kb, 9, none⟩ = false ∧ KeepSTi w0 (W5.setCell ⟨kb, 9, none⟩ v') kb (m + 1) v' V := by
  have hsz : (w.setCell ⟨kb, 0, none⟩ (.int .i64 ((m : Int) + 1))).heap.size = w.heap.size := by simp
  have hlw := hS.lt.2
  have c0 : (w.setCell ⟨kb, 0, none⟩ (.int .i64 ((m : Int) + 1))).cell? ⟨kb, 0, none⟩ = some (.int .i64 ((m : Int) + 1)) := World.cell?_setCell_same' w _ _ (by rw [hS.n]; rfl)
  have cj : ∀ j, 1 ≤ j → (w.setCell ⟨kb, 0, none⟩ (.int .i64 ((m : Int) + 1))).cell? ⟨kb, j, none⟩ = w.cell? ⟨kb, j, none⟩ := fun j hj =>
    World.cell?_setCells_out kb [.int .i64 ((m : Int) + 1)] 0 w ⟨kb, j, none⟩ (fun _ _ => by simp only [List.length_cons, List.length_nil]; omega)
  have hkd : kb < Wd.heap.size := by have := hbelow.size; omega
  have hne : tv.ownBlock ≠ some kb := fun e => by have := (hS.own.lt kb e).1; omega
  have hb5 : W5.heap[kb]? = Wd.heap[kb]? := h3.block kb hkd (fun e => hne e.symm)
  have hcd : ∀ j, Wd.cell? ⟨kb, j, none⟩ = (w.setCell ⟨kb, 0, none⟩ (.int .i64 ((m : Int) + 1))).cell? ⟨kb, j, none⟩ := fun j => World.cell?_of_block (hbelow.block kb (by rw [hsz]; exact hlw))
  have hc5 : ∀ j, W5.cell? ⟨kb, j, none⟩ = (w.setCell ⟨kb, 0, none⟩ (.int .i64 ((m : Int) + 1))).cell? ⟨kb, j, none⟩ := fun j => (World.cell?_of_block hb5).trans (hcd j)
  have hf5 : ∀ j, W5.frozen? ⟨kb, j, none⟩ = false := fun j => by
    rw [World.frozen?_of_block (w := Wd) hb5, World.frozen?_of_block (w := w.setCell ⟨kb, 0, none⟩ (.int .i64 ((m : Int) + 1))) (hbelow.block kb (by rw [hsz]; exact hlw)), World.frozen?_setCell]
    exact hS.fz j
  have c3 : W5.cell? ⟨kb, 9, none⟩ = some tv := by rw [hc5, cj 9 (by omega)]; exact hS.tx
  have cs : ∀ j, j ≠ 9 → (W5.setCell ⟨kb, 9, none⟩ v').cell? ⟨kb, j, none⟩ = W5.cell? ⟨kb, j, none⟩ := fun j hj =>
    World.cell?_setCells_out kb [v'] 9 W5 ⟨kb, j, none⟩ (fun _ _ => by simp only [List.length_cons, List.length_nil]; omega)
  have hs5 : (W5.setCell ⟨kb, 9, none⟩ v').heap.size = W5.heap.size := by simp
  refine ⟨⟨_, c3⟩, hf5 9, ⟨?_, ?_, ?_, ?_, ?_, ?_, ?_⟩⟩
  · refine Below.setCell ?_ (p := ⟨kb, 9, none⟩) hS.lt.1 _
    refine ((hS.bel.setCell (p := ⟨kb, 0, none⟩) hS.lt.1 (.int .i64 ((m : Int) + 1))).trans (hbelow.mono (by rw [hsz]; exact hS.bel.size))).grown h3 (by have := hS.lt; omega) fun g hg => ?_
    have := (hS.own.lt g hg).1
    have := hS.lt.1
    omega
  · rw [cs 0 (by omega), hc5, c0]
    exact congrArg (fun z => some (Value.int .i64 z)) (by omega)
  · exact World.cell?_setCell_same' W5 _ _ (by rw [c3]; rfl)
  · intro j x1 x2 x3
    rw [cs j x3, hc5, cj j x1]
    exact hS.nl j x1 x2 x3
  · intro j
    rw [World.frozen?_setCell]
    exact hf5 j
  · have := h3.size
    exact ⟨hS.lt.1, by rw [hs5]; omega⟩
  · rw [heldCells_succTi]
    exact rowKeepTi h2 fun g hg => heap_setCell_other W5 _ g _ (fun e => by
      have := (h2.lt g hg).1
      have e2 : g = kb := e
      omega)

set_option maxHeartbeats 4000000 in
set_option maxRecDepth 100000 in
theorem keepOne_anyTi (w0 w : World) (kb m : Nat) (tv : Value) (V : Nat → Value) (hS : KeepSTi w0 w kb m tv V) (hv1 : ∃ ao n c, V m = .slice ao n c) (hm : m ≤ 1000) :
    Calls Tryz.prog 88 #[.pointer (some ⟨kb, 0, none⟩), V m] w fun e w' => e = .returned (.tuple #[]) ∧ ∃ tv', KeepSTi w0 w' kb (m + 1) tv' V := by
  have n0 := hS.n
  have f0 := hS.fz 0
  have HS := Lib.hid hS
  have hsz : (w.setCell ⟨kb, 0, none⟩ (.int .i64 ((m : Int) + 1))).heap.size = w.heap.size := by simp
  have hlw := hS.lt.2
  have c0 : (w.setCell ⟨kb, 0, none⟩ (.int .i64 ((m : Int) + 1))).cell? ⟨kb, 0, none⟩ = some (.int .i64 ((m : Int) + 1)) := World.cell?_setCell_same' w _ _ (by rw [hS.n]; rfl)
  have c3 : (w.setCell ⟨kb, 0, none⟩ (.int .i64 ((m : Int) + 1))).cell? ⟨kb, 9, none⟩ = some tv :=
    (World.cell?_setCells_out kb [.int .i64 ((m : Int) + 1)] 0 w ⟨kb, 9, none⟩ (fun _ _ => by simp only [List.length_cons, List.length_nil]; omega)).trans hS.tx
  have hown : (w.setCell ⟨kb, 0, none⟩ (.int .i64 ((m : Int) + 1))).ownsRow (kb + 1) 143 3 tv m (heldCellsTi V m) := rowKeepTi hS.own fun g hg => heap_setCell_other w _ g _ (fun e => by
    have := (hS.own.lt g hg).1
    have e2 : g = kb := e
    omega)
  have HE := Lib.hid (fun Wd W5 v' => keep_endTi (Wd := Wd) (W5 := W5) (v' := v') hS)
  obtain ⟨ao, vn, vc, hvm⟩ := hv1
  have HVM := Lib.hid hvm
  rw [hvm]
  clear hS hvm
  go_enter Tryz.func88, Tryz.ntmps88
  go_upto_region 1 with fail
  generalize w.setCell ⟨kb, 0, none⟩ (.int .i64 ((m : Int) + 1)) = Ws at *
  have hkw : kb < Ws.heap.size := by omega
  have cd0 : Ws.drew.cell? ⟨kb, 0, none⟩ = some (.int .i64 ((m : Int) + 1)) := c0
  have cd3 : Ws.drew.cell? ⟨kb, 9, none⟩ = some tv := c3
  have hbd : Below Ws.heap.size Ws (Ws.drew.alloc (.cells #[.slice ao vn vc, .slice none 0 0, .int .i64 ((m : Int) + 1)] 143)) := ((Below.refl _ _).drew).alloc (Nat.le_refl _) _
  have ca3 : (Ws.drew.alloc (.cells #[.slice ao vn vc, .slice none 0 0, .int .i64 ((m : Int) + 1)] 143)).cell? ⟨kb, 9, none⟩ = some tv := below_cell hbd c3
  have hown4 : (Ws.drew.alloc (.cells #[.slice ao vn vc, .slice none 0 0, .int .i64 ((m : Int) + 1)] 143)).ownsRow (kb + 1) 143 3 tv m (heldCellsTi V m) := own_belowTi hown hbd
  have HOWN := Lib.hid hown4
  have HBD := Lib.hid hbd
  have hws : Ws.drew.heap.size = w.heap.size := hsz
  have hBw : kb + 1 ≤ (Ws.drew.alloc (.cells #[.slice ao vn vc, .slice none 0 0, .int .i64 ((m : Int) + 1)] 143)).heap.size := by have := hbd.size; omega
  have hnw := (keep_allocTi (w := Ws.drew) (v := .slice ao vn vc) (m := m))
  rw [hws] at hnw
  have HNW := Lib.hid hnw
  clear hown hown4 hbd hnw
  refine wp_region_any (by kernel_rfl) ?_
  change wpAny _ _ _ _ _ _ _ (World.drew _)
  refine wpAny_take (i := 0) (v := .pointer (some ⟨kb, 0, none⟩)) rfl (by kernel_rfl) (by kernel_rfl) (by kernel_rfl) (fun _ _ _ h => h) (Or.inl ⟨by rfl, ?_⟩) ?_
  · intro w
    go_simp
  simp only [List.getElem_toArray, List.getElem_cons_zero, Act.put, List.setIfInBounds_toArray, List.set_cons_zero, List.set_cons_succ]
  refine wpAny_take (i := 1) (v := .pointer (some ⟨kb, 0, none⟩)) rfl (by kernel_rfl) (by kernel_rfl) (by kernel_rfl) (fun _ _ _ h => h) (Or.inl ⟨by rfl, ?_⟩) ?_
  · intro w
    go_simp
  simp only [List.getElem_toArray, List.getElem_cons_succ, List.getElem_cons_zero, Act.put, List.setIfInBounds_toArray, List.set_cons_zero, List.set_cons_succ]
  refine wpAny_take (i := 2) (v := .pointer (some ⟨kb, 0, none⟩)) rfl (by kernel_rfl) (by kernel_rfl) (by kernel_rfl) (fun _ _ _ h => h) (Or.inl ⟨by rfl, ?_⟩) ?_
  · intro w
    go_simp
  simp only [List.getElem_toArray, List.getElem_cons_succ, List.getElem_cons_zero, Act.put, List.setIfInBounds_toArray, List.set_cons_zero, List.set_cons_succ]
  refine wpAny_take (i := 3) (v := .pointer (some ⟨kb, 9, none⟩)) rfl (by kernel_rfl) (by kernel_rfl) (by kernel_rfl) (fun _ _ _ h => h) (Or.inl ⟨by rfl, ?_⟩) ?_
  · intro w
    go_simp
  simp only [List.getElem_toArray, List.getElem_cons_succ, List.getElem_cons_zero, Act.put, List.setIfInBounds_toArray, List.set_cons_zero, List.set_cons_succ]
  refine wpAny_take (i := 5) (v := .slice ao vn vc) rfl (by kernel_rfl) (by kernel_rfl) (by kernel_rfl) (fun _ _ _ h => h) (Or.inl ⟨by rfl, ?_⟩) ?_
  · intro w
    go_simp
  simp only [List.getElem_toArray, List.getElem_cons_succ, List.getElem_cons_zero, Act.put, List.setIfInBounds_toArray, List.set_cons_zero, List.set_cons_succ]
  refine wpAny_take (i := 6) (v := .pointer (some ⟨kb, 0, none⟩)) rfl (by kernel_rfl) (by kernel_rfl) (by kernel_rfl) (fun _ _ _ h => h) (Or.inl ⟨by rfl, ?_⟩) ?_
  · intro w
    go_simp
  simp only [List.getElem_toArray, List.getElem_cons_succ, List.getElem_cons_zero, Act.put, List.setIfInBounds_toArray, List.set_cons_zero, List.set_cons_succ]
  refine wpAny_take (i := 7) (v := .pointer (some ⟨kb, 0, none⟩)) rfl (by kernel_rfl) (by kernel_rfl) (by kernel_rfl) (fun _ _ _ h => h) (Or.inl ⟨by rfl, ?_⟩) ?_
  · intro w
    go_simp
  simp only [List.getElem_toArray, List.getElem_cons_succ, List.getElem_cons_zero, Act.put, List.setIfInBounds_toArray, List.set_cons_zero, List.set_cons_succ]
  refine wpAny_take (i := 8) (v := .pointer (some ⟨kb, 0, none⟩)) rfl (by kernel_rfl) (by kernel_rfl) (by kernel_rfl) (fun _ _ _ h => h) (Or.inl ⟨by rfl, ?_⟩) ?_
  · intro w
    go_simp
  simp only [List.getElem_toArray, List.getElem_cons_succ, List.getElem_cons_zero, Act.put, List.setIfInBounds_toArray, List.set_cons_zero, List.set_cons_succ]
  refine wpAny_ready (rs := [4, 9]) (by kernel_rfl) (by simp) ?_
  refine AllReady.cons rfl (fun K hK => ?_) (AllReady.cons rfl (fun K hK => ?_) AllReady.nil)
  · go_simp
    refine hK _ _ ?_
    clear hK K
    refine wpAny_ready (rs := [9]) (by kernel_rfl) (by simp) ?_
    refine AllReady.cons rfl (fun K hK => ?_) AllReady.nil
    go_simp
    refine hK _ _ ?_
    clear hK K
    refine wpAny_take (i := 10) (v := .agg #[.slice ao vn vc, .slice none 0 0, .int .i64 ((m : Int) + 1)]) rfl (by kernel_rfl) (by kernel_rfl) (by kernel_rfl) (fun _ _ _ h => h) (Or.inl ⟨by rfl, ?_⟩) ?_
    · intro w
      go_simp
    simp only [List.getElem_toArray, List.getElem_cons_succ, List.getElem_cons_zero, Act.put, List.setIfInBounds_toArray, List.set_cons_zero, List.set_cons_succ]
    refine wpAny_ready (rs := [11]) (by kernel_rfl) (by simp) ?_
    refine AllReady.cons rfl (fun K hK => ?_) AllReady.nil
    go_simp
    refine hK _ _ ?_
    clear hK K
    refine wpAny_ready (rs := [12]) (by kernel_rfl) (by simp) ?_
    refine AllReady.cons rfl (fun K hK => ?_) AllReady.nil
    refine step_append_heldTi (by rfl) (.tmp 15) (.tmp 22) (by rfl) (by rfl) HOWN.out (by rfl) rfl HNW.out (by intro u hu; simp at hu; rcases hu with rfl | rfl | rfl <;> rfl) hm hBw ?_
    intro v' W5 h2 h3
    obtain ⟨vo, vk, vq, rfl⟩ : ∃ ao n c, v' = .slice ao n c := by rcases h2.2 with ⟨h, _⟩ | ⟨_, _, _, h, _⟩ <;> exact ⟨_, _, _, h⟩
    rw [← HVM.out] at h2
    obtain ⟨⟨u, q1⟩, q2, q3⟩ := HE.out _ W5 (.slice vo vk vq) HBD.out h2 h3
    have HQ := Lib.hid q3
    clear q3 h2 h3
    refine hK _ _ ?_
    clear hK K
    refine wpAny_take (i := 13) (v := .pointer (some ⟨kb, 0, none⟩)) rfl (by kernel_rfl) (by kernel_rfl) (by kernel_rfl) (fun _ _ _ h => h) (Or.inl ⟨by rfl, ?_⟩) ?_
    · intro w
      go_simp
    simp only [List.getElem_toArray, List.getElem_cons_succ, List.getElem_cons_zero, Act.put, List.setIfInBounds_toArray, List.set_cons_zero, List.set_cons_succ]
    refine wpAny_take (i := 14) (v := .pointer (some ⟨kb, 9, none⟩)) rfl (by kernel_rfl) (by kernel_rfl) (by kernel_rfl) (fun _ _ _ h => h) (Or.inl ⟨by rfl, ?_⟩) ?_
    · intro w
      go_simp
    simp only [List.getElem_toArray, List.getElem_cons_succ, List.getElem_cons_zero, Act.put, List.setIfInBounds_toArray, List.set_cons_zero, List.set_cons_succ]
    refine wpAny_ready (rs := [15]) (by kernel_rfl) (by simp) ?_
    refine AllReady.cons rfl (fun K hK => ?_) AllReady.nil
    go_simp
    refine hK _ _ ?_
    clear hK K
    refine wpAny_done (by kernel_rfl) ?_ _
    go_end0
    exact ⟨rfl, _, HQ.out⟩
  · go_simp
    refine hK _ _ ?_
    clear hK K
    refine wpAny_take (i := 10) (v := .agg #[.slice ao vn vc, .slice none 0 0, .int .i64 ((m : Int) + 1)]) rfl (by kernel_rfl) (by kernel_rfl) (by kernel_rfl) (fun _ _ _ h => h) (Or.inl ⟨by rfl, ?_⟩) ?_
    · intro w
      go_simp
    simp only [List.getElem_toArray, List.getElem_cons_succ, List.getElem_cons_zero, Act.put, List.setIfInBounds_toArray, List.set_cons_zero, List.set_cons_succ]
    refine wpAny_ready (rs := [4, 11]) (by kernel_rfl) (by simp) ?_
    refine AllReady.cons rfl (fun K hK => ?_) (AllReady.cons rfl (fun K hK => ?_) AllReady.nil)
    · go_simp
      refine hK _ _ ?_
      clear hK K
      refine wpAny_ready (rs := [11]) (by kernel_rfl) (by simp) ?_
      refine AllReady.cons rfl (fun K hK => ?_) AllReady.nil
      go_simp
      refine hK _ _ ?_
      clear hK K
      refine wpAny_ready (rs := [12]) (by kernel_rfl) (by simp) ?_
      refine AllReady.cons rfl (fun K hK => ?_) AllReady.nil
      refine step_append_heldTi (by rfl) (.tmp 15) (.tmp 22) (by rfl) (by rfl) HOWN.out (by rfl) rfl HNW.out (by intro u hu; simp at hu; rcases hu with rfl | rfl | rfl <;> rfl) hm hBw ?_
      intro v' W5 h2 h3
      obtain ⟨vo, vk, vq, rfl⟩ : ∃ ao n c, v' = .slice ao n c := by rcases h2.2 with ⟨h, _⟩ | ⟨_, _, _, h, _⟩ <;> exact ⟨_, _, _, h⟩
      rw [← HVM.out] at h2
      obtain ⟨⟨u, q1⟩, q2, q3⟩ := HE.out _ W5 (.slice vo vk vq) HBD.out h2 h3
      have HQ := Lib.hid q3
      clear q3 h2 h3
      refine hK _ _ ?_
      clear hK K
      refine wpAny_take (i := 13) (v := .pointer (some ⟨kb, 0, none⟩)) rfl (by kernel_rfl) (by kernel_rfl) (by kernel_rfl) (fun _ _ _ h => h) (Or.inl ⟨by rfl, ?_⟩) ?_
      · intro w
        go_simp
      simp only [List.getElem_toArray, List.getElem_cons_succ, List.getElem_cons_zero, Act.put, List.setIfInBounds_toArray, List.set_cons_zero, List.set_cons_succ]
      refine wpAny_take (i := 14) (v := .pointer (some ⟨kb, 9, none⟩)) rfl (by kernel_rfl) (by kernel_rfl) (by kernel_rfl) (fun _ _ _ h => h) (Or.inl ⟨by rfl, ?_⟩) ?_
      · intro w
        go_simp
      simp only [List.getElem_toArray, List.getElem_cons_succ, List.getElem_cons_zero, Act.put, List.setIfInBounds_toArray, List.set_cons_zero, List.set_cons_succ]
      refine wpAny_ready (rs := [15]) (by kernel_rfl) (by simp) ?_
      refine AllReady.cons rfl (fun K hK => ?_) AllReady.nil
      go_simp
      refine hK _ _ ?_
      clear hK K
      refine wpAny_done (by kernel_rfl) ?_ _
      go_end0
      exact ⟨rfl, _, HQ.out⟩
    · go_simp
      refine hK _ _ ?_
      clear hK K
      refine wpAny_ready (rs := [4]) (by kernel_rfl) (by simp) ?_
      refine AllReady.cons rfl (fun K hK => ?_) AllReady.nil
      go_simp
      refine hK _ _ ?_
      clear hK K
      refine wpAny_ready (rs := [12]) (by kernel_rfl) (by simp) ?_
      refine AllReady.cons rfl (fun K hK => ?_) AllReady.nil
      refine step_append_heldTi (by rfl) (.tmp 15) (.tmp 22) (by rfl) (by rfl) HOWN.out (by rfl) rfl HNW.out (by intro u hu; simp at hu; rcases hu with rfl | rfl | rfl <;> rfl) hm hBw ?_
      intro v' W5 h2 h3
      obtain ⟨vo, vk, vq, rfl⟩ : ∃ ao n c, v' = .slice ao n c := by rcases h2.2 with ⟨h, _⟩ | ⟨_, _, _, h, _⟩ <;> exact ⟨_, _, _, h⟩
      rw [← HVM.out] at h2
      obtain ⟨⟨u, q1⟩, q2, q3⟩ := HE.out _ W5 (.slice vo vk vq) HBD.out h2 h3
      have HQ := Lib.hid q3
      clear q3 h2 h3
      refine hK _ _ ?_
      clear hK K
      refine wpAny_take (i := 13) (v := .pointer (some ⟨kb, 0, none⟩)) rfl (by kernel_rfl) (by kernel_rfl) (by kernel_rfl) (fun _ _ _ h => h) (Or.inl ⟨by rfl, ?_⟩) ?_
      · intro w
        go_simp
      simp only [List.getElem_toArray, List.getElem_cons_succ, List.getElem_cons_zero, Act.put, List.setIfInBounds_toArray, List.set_cons_zero, List.set_cons_succ]
      refine wpAny_take (i := 14) (v := .pointer (some ⟨kb, 9, none⟩)) rfl (by kernel_rfl) (by kernel_rfl) (by kernel_rfl) (fun _ _ _ h => h) (Or.inl ⟨by rfl, ?_⟩) ?_
      · intro w
        go_simp
      simp only [List.getElem_toArray, List.getElem_cons_succ, List.getElem_cons_zero, Act.put, List.setIfInBounds_toArray, List.set_cons_zero, List.set_cons_succ]
      refine wpAny_ready (rs := [15]) (by kernel_rfl) (by simp) ?_
      refine AllReady.cons rfl (fun K hK => ?_) AllReady.nil
      go_simp
      refine hK _ _ ?_
      clear hK K
      refine wpAny_done (by kernel_rfl) ?_ _
      go_end0
      exact ⟨rfl, _, HQ.out⟩

theorem keepAll_anyTi (w0 w : World) (kb m : Nat) (tv : Value) (V : Nat → Value) (hS : KeepSTi w0 w kb m tv V) (hv1 : ∃ ao n c, V m = .slice ao n c) (hm : m ≤ 1000) :
    Calls Tryz.prog 22 #[.pointer (some ⟨kb, 0, none⟩), V m] w fun e w' => e = .returned (.tuple #[]) ∧ ∃ tv', KeepSTi w0 w' kb (m + 1) tv' V := by
  have HK := Lib.hid (keepOne_anyTi w0 w kb m tv V hS hv1 hm)
  clear hS
  generalize V m = v at *
  go_enter Tryz.func22, Tryz.ntmps22
  go_wp2_with fail
  refine HK.out.mono ?_
  rintro e w1 ⟨rfl, h⟩
  go_wp2_with fail
  go_end0
  exact ⟨rfl, h⟩
end Go.Proofs.YtlahdjdbbfjadaaGreatDoor
