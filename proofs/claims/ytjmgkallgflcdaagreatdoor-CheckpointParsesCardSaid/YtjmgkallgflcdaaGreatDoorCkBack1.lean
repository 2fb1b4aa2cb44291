/-
  For CheckpointBack: a text that is too long, TextsSize, Beyond of one number.
-/
import Derived.Test.YtjmgkallgflcdaaGreatDoorCkAlive
namespace Go.Proofs.YtjmgkallgflcdaaGreatDoor
open Go.RowKit

theorem step_ckStore {ops : Array Oper} {o : Oper} {a : Act} {K : Act → World → Prop} {Q : Exit → Act → World → Prop} {E : Prop} (hgd : o.guard = none) (x y : Operand) (ho : o.op = .store 27 x y) {W : World} {g : Nat} {cs old : Array Value}
    (hx : a.eval x = .pointer (some ⟨g, 0, none⟩)) (hy : a.eval y = .agg cs) (hg : W.heap[g]? = some (.cells old 27 (0, 0))) (hcs : cs.size = 35) (hold : old.size = 35) (hone : cs.all (·.oneCell') = true)
    (h : K (a.put o.dst undef) (W.setRow g cs)) : if Region.wanted o (yielded ops a.tmps) = true then Oper.wp Tryz.prog o a W K Q else E := by
  have hw : Region.wanted o (yielded ops a.tmps) = true := by simp [Region.wanted, hgd]
  rw [if_pos hw]
  exact wp_store_row 27 x y ho g cs hx hy 27 old hg (by rw [hcs]; exact ckInfo) (by rw [hcs]; exact hold) hone h

/-- What is kept while the limit's answer is laid. -/
abbrev LimitS (S : Nat → Addr) (w W' : World) : Prop :=
  Below w.heap.size w W' ∧ W'.heap[w.heap.size]? = some (.cells ckZero 27 (0, 0)) ∧ W'.cell? ⟨1, 0, none⟩ = some (.iface 281 (.pointer (some (S 4))))
theorem limitS_start (S : Nat → Addr) (w : World) {W : World} (h1 : Below w.heap.size w W) (h2 : W.heap[w.heap.size]? = some (.cells ckZero 27 (0, 0))) (h3 : W.cell? ⟨1, 0, none⟩ = some (.iface 281 (.pointer (some (S 4))))) : LimitS S w W := ⟨h1, h2, h3⟩
theorem limitS_set (S : Nat → Addr) (w : World) : ∀ W, LimitS S w W → LimitS S w (W.setRow w.heap.size ckZero) := fun W ⟨h1, h2, h3⟩ => by
  refine ⟨below_setRow h1 (Nat.le_refl _) _, setRow_heap _ _ _ _ _ _ h2, ?_⟩
  by_cases e : 1 = w.heap.size
  · exfalso
    have h4 : W.cell? ⟨w.heap.size, 0, none⟩ = some (.string ⟨#[]⟩) := by rw [cell_of_row _ _ 0 _ _ _ h2]; rfl
    rw [← e, h3] at h4
    cases h4
  · rw [← h3]
    exact World.cell?_of_block (setRow_other _ _ _ _ e)

theorem limitS_drew (S : Nat → Addr) (w W : World) (h : LimitS S w W) : LimitS S w W.drew := ⟨h.1.drew, h.2⟩
set_option maxHeartbeats 1000000 in
set_option maxRecDepth 100000 in
theorem parse_big (S : Nat → Addr) (s : ByteArray) (w : World) (hs : s.size ≤ 140737488351232) (hbig : 1048576 < s.size) (hB : Base S w) :
    Calls Tryz.prog 15 #[.string s] w fun e w' => ParsePost S w (parseCk s.data.toList) e w' := by
  have hr : parseCk s.data.toList = (st0, 4, none) := by unfold parseCk; rw [if_pos (by rw [size_list]; exact hbig)]
  rw [hr]
  have b1 : Below w.heap.size w (w.alloc (.cells ckZero 27)) := (Below.refl _ _).alloc (Nat.le_refl _) _
  have g4 := (hB.below b1).var 4 (by omega) (by omega)
  have hrow : (w.alloc (.cells ckZero 27)).heap[w.heap.size]? = some (.cells ckZero 27 (0, 0)) := heap_alloc_new w _
  simp only [errG, errV] at g4
  have HB1 := Lib.hid b1
  clear hB hr b1
  go_enter Tryz.func15, Tryz.ntmps15
  go_wp2_with fail
  rw [zero_lit]
  have HS0 := Lib.hid (limitS_drew S w _ (limitS_start S w HB1.out hrow g4))
  have HKP := Lib.hid (limitS_set S w)
  clear hrow g4
  have g4 := HS0.out.2.2
  have hrow := HS0.out.2.1
  have HS1 := Lib.hid (HKP.out _ HS0.out)
  have g5 := HS1.out.2.2
  generalize w.alloc (.cells ckZero 27) = W1 at *
  refine wp_region_any (by kernel_rfl) ?_
  change wpAny _ _ _ _ _ _ _ (World.drew _)
  refine wpAny_take (i := 0) (v := .agg ckZero) rfl (by kernel_rfl) (by kernel_rfl) (by kernel_rfl) (fun _ _ _ h => h) (Or.inl ⟨by rfl, ?_⟩) ?_
  · intro w
    go_simp
    exact rfl
  refine wpAny_ready (rs := [1, 2]) (by kernel_rfl) (by simp) ?_
  refine AllReady.cons rfl (fun K hK => ?_) (AllReady.cons rfl (fun K hK => ?_) AllReady.nil)
  · go_simp
    refine hK _ _ ?_
    clear hK K
    refine wpAny_ready (rs := [2]) (by kernel_rfl) (by simp) ?_
    refine AllReady.cons rfl (fun K hK => ?_) AllReady.nil
    refine step_ckStore (by rfl) (.tmp 2) (.tmp 12) (by rfl) (by rfl) (by rfl) hrow zero_size zero_size zero_one ?_
    refine hK _ _ ?_
    clear hK K
    refine wpAny_ready (rs := [3]) (by kernel_rfl) (by simp) ?_
    refine AllReady.cons rfl (fun K hK => ?_) AllReady.nil
    go_simp
    refine hK _ _ ?_
    clear hK K
    refine wpAny_done (by kernel_rfl) ?_ _
    simp only [Exit.then]
    go_wp2_with fail
    refine ret_ck (by rfl) w.heap.size ckZero _ HS1.out.2.1 zero_size (by rfl) (by rfl) (by rfl) ?_
    exact ⟨_, _, rfl, HS1.out.1, .inr (.inl ⟨by decide, by decide, rfl, rfl⟩), fun _ => rfl, fun h => by cases h⟩
  · refine step_ckStore (by rfl) (.tmp 2) (.tmp 12) (by rfl) (by rfl) (by rfl) hrow zero_size zero_size zero_one ?_
    refine hK _ _ ?_
    clear hK K
    refine wpAny_ready (rs := [1]) (by kernel_rfl) (by simp) ?_
    refine AllReady.cons rfl (fun K hK => ?_) AllReady.nil
    go_simp
    refine hK _ _ ?_
    clear hK K
    refine wpAny_ready (rs := [3]) (by kernel_rfl) (by simp) ?_
    refine AllReady.cons rfl (fun K hK => ?_) AllReady.nil
    go_simp
    refine hK _ _ ?_
    clear hK K
    refine wpAny_done (by kernel_rfl) ?_ _
    simp only [Exit.then]
    go_wp2_with fail
    refine ret_ck (by rfl) w.heap.size ckZero _ HS1.out.2.1 zero_size (by rfl) (by rfl) (by rfl) ?_
    exact ⟨_, _, rfl, HS1.out.1, .inr (.inl ⟨by decide, by decide, rfl, rfl⟩), fun _ => rfl, fun h => by cases h⟩
theorem textsSize_any (w : World) (ev : Value) (L : List (List UInt8)) (hT : TextsIn w ev L) (hl : L.length ≤ 140737488351232) (hx : ∀ x ∈ L, x.length ≤ 140737488351232) :
    Calls Tryz.prog 7 #[ev] w fun e w' => ∃ N : Nat, N ≤ 281474976710656 ∧ (N ≤ 1048576 → L.length ≤ N) ∧ e = .returned (.int .i64 (N : Int)) ∧ Below w.heap.size w w' := by
  obtain ⟨ao, c, rfl, hc⟩ := hT
  have HC := Lib.hid hc
  have HX := Lib.hid hx
  clear hc hx
  go_enter Tryz.func7, Tryz.ntmps7
  go_wp2_with fail
  go_loopw [3, 4] (fun vn vi wr => ∃ k n d : Nat, k ≤ L.length ∧ n ≤ 281474976710656 ∧ k ≤ n ∧ vn = .int .i64 n ∧ vi = .int .i64 k ∧ wr = w.drewN d) (fun _ vi _ => L.length - (intOf vi).toNat)
  case atStart => exact ⟨0, 0, 0, by omega, by omega, by omega, rfl, rfl, rfl⟩
  case round =>
    obtain ⟨k, n, d, hk, hn, hkn, rfl, rfl, rfl⟩ := hrel
    by_cases hlt : k < L.length
    · have hki : (k : Int) < (L.length : Int) := by omega
      by_cases hn2 : n ≤ 1048576
      · have hni : (n : Int) ≤ 1048576 := by omega
        obtain ⟨x, hx⟩ : ∃ x, L[k]? = some x := ⟨_, List.getElem?_eq_getElem hlt⟩
        obtain ⟨b, off, rfl, hcell⟩ := HC.out (fun e => by rw [e] at hlt; simp at hlt)
        have hcl : (w.drewN d).cell? ⟨b, off + k, none⟩ = some (.string ⟨x.toArray⟩) := hcell k x hx
        have hxs : (⟨x.toArray⟩ : ByteArray).size ≤ 140737488351232 := by
          show x.toArray.size ≤ _
          simpa using HX.out x (List.mem_of_getElem? hx)
        generalize (⟨x.toArray⟩ : ByteArray) = xs at *
        clear hcell hx
        go_wp2_with fail
        go_roundw
        case rel => exact ⟨k + 1, n + 1 + xs.size, _, by omega, by omega, by omega, by go_num, by go_num, rfl⟩
        case measure => simp [intOf]; omega
      · have hni : ¬ (n : Int) ≤ 1048576 := by omega
        go_wp2_with fail
        go_ret
        exact ⟨n, hn, fun h => absurd h hn2, rfl, below_drewN (Below.refl _ _) _⟩
    · obtain rfl : k = L.length := by omega
      have hki : ¬ (L.length : Int) < (L.length : Int) := by omega
      go_wp2_with fail
      go_ret
      exact ⟨n, hn, fun _ => hkn, rfl, below_drewN (Below.refl _ _) _⟩
theorem beyond_one (w : World) (g N : Nat) (hc : w.cell? ⟨g, 0, none⟩ = some (.int .i64 (N : Int))) (hN : N ≤ 281474976710656) :
    Calls Tryz.prog 6 #[.slice (some ⟨g, 0, none⟩) 1 1] w fun e w' => e = .returned (.bool (decide (1048576 < N))) ∧ Below w.heap.size w w' := by
  go_enter Tryz.func6, Tryz.ntmps6
  go_wp2_with fail
  by_cases hb : 1048576 < N
  · have hbi : (1048576 : Int) < (N : Int) := by omega
    refine wp_loop_rounds 1 ?_
    rw [rounds_succ]
    go_wp2_with fail
    go_ret
    exact ⟨ret_bool (by simp [hb]), below_drewN (Below.refl _ _) 0⟩
  · have hbi : ¬ (1048576 : Int) < (N : Int) := by omega
    refine wp_loop_rounds 2 ?_
    rw [rounds_succ]
    go_wp2_with fail
    rw [rounds_succ]
    go_wp2_with fail
    go_ret
    exact ⟨ret_bool (by simp [hb]), below_drewN (Below.refl _ _) 0⟩
theorem parse_all (S : Nat → Addr) (s : ByteArray) (w : World) (hs : s.size ≤ 140737488351232) (hB : Base S w) :
    Calls Tryz.prog 15 #[.string s] w fun e w' => ParsePost S w (parseCk s.data.toList) e w' := by
  by_cases h : 1048576 < s.size
  · exact parse_big S s w hs h hB
  · exact parse_any S s w (by omega) hB
theorem zero_list : ckZero = (ckList ⟨([] : List UInt8).toArray⟩ ((0 : Nat) : Int) (Lib.byteCells (List.replicate 32 0)) (.slice none 0 0)).toArray := rfl
theorem texts_none (w : World) : TextsIn w (.slice none 0 0) [] := ⟨none, 0, rfl, fun h => absurd rfl h⟩
theorem same_zero (w : World) : Calls Tryz.prog 16 #[.agg ckZero, .agg ckZero] w fun e w' => e = .returned (.bool true) ∧ Below w.heap.size w w' := by
  have h := sameCk_any w [] [] 0 0 (List.replicate 32 0) (List.replicate 32 0) [] [] _ _ (by simp) (by simp) (texts_none w) (texts_none w) (by decide) (by decide)
  rw [← zero_list] at h
  refine h.mono ?_
  rintro e w' ⟨rfl, b⟩
  exact ⟨ret_bool (by simp), b⟩
theorem is_yes2 (S : Nat → Addr) (w : World) (v : Value) (c : Nat) (hB : Base S w) (h : ErrAt S w v c none) : Calls Tryz.prog 35 #[v, .int .i64 (c : Int)] w fun e w' => e = .returned (.bool true) ∧ Below w.heap.size w w' := by
  refine (is_any S w v c none (c : Int) hB h).mono ?_
  rintro e w' ⟨rfl, b⟩
  exact ⟨ret_bool (by simp [isB]), b⟩
theorem err_iface {S : Nat → Addr} {w : World} {v : Value} {c : Nat} {p : Option Int} (h : ErrAt S w v c p) (hc : c ≠ 0) : ∃ T x, v = .iface T x := by
  rcases h with ⟨_, h, _⟩ | ⟨_, _, h, _⟩ | ⟨_, _, b, y, h, _⟩
  · exact absurd h hc
  · exact ⟨_, _, h⟩
  · exact ⟨_, _, h⟩
end Go.Proofs.YtjmgkallgflcdaaGreatDoor
