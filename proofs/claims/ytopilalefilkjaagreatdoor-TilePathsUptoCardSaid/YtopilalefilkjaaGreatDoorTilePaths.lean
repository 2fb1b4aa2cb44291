/-
  PROVED: cartularylaw11.TilePaths returns true, for every tile and every text whose bulk is small (the second form of the tied card of its row): the program's Path and Parse answer what the reference's answer; the chapter's examples hold. Conditions: those of the row.
-/
import Derived.Test.YtopilalefilkjaaGreatDoorTileRefP
import Derived.Test.YtopilalefilkjaaGreatDoorTileLives
import Derived.Test.YtopilalefilkjaaGreatDoorTilePathsFrame
namespace Go.Proofs.YtopilalefilkjaaGreatDoor
open Go.RowKit

theorem errAt_sent (S : Nat → Addr) (w : World) (k : Nat) (h1 : 1 ≤ k) (h2 : k ≤ 16) : ErrAt S w (errV S k) k none := .inr (.inl ⟨h1, h2, rfl, rfl⟩)
theorem paths_both (S : Nat → Addr) (L I : Nat) (W : Int) : ∃ (p : ByteArray) (ev : Value) (k : Nat) (c z : Int), pathV S L I W = .tuple #[.string p, ev] ∧ refPathV L I W = .tuple #[.string p, .agg #[.int .i64 c, .int .i64 z]] ∧ (∀ w, ErrAt S w ev k none) ∧ sameB k none c z = true := by
  unfold pathV refPathV
  by_cases h : MayT L I W
  · rw [if_pos h, if_pos h]
    exact ⟨_, _, 0, 0, 0, rfl, rfl, fun w => ErrAt.nil S w, by decide⟩
  · rw [if_neg h, if_neg h]
    exact ⟨_, _, 2, 2, -1, rfl, rfl, fun w => errAt_sent S w 2 (by omega) (by omega), by decide⟩
theorem parses_both (S : Nat → Addr) (l : List UInt8) : ∃ (x y u : Int) (ev : Value) (k : Nat) (c z : Int), parseV S l = .tuple #[.agg #[.int .u8 x, .int .u64 y, .int .i64 u], ev] ∧ refParseV l = .tuple #[.agg #[.int .u8 x, .int .u64 y, .int .i64 u], .agg #[.int .i64 c, .int .i64 z]] ∧ (∀ w, ErrAt S w ev k none) ∧ sameB k none c z = true := by
  unfold parseV refParseV
  cases h : parseT l with
  | none => exact ⟨_, _, _, _, 3, 3, -1, rfl, rfl, fun w => errAt_sent S w 3 (by omega) (by omega), by decide⟩
  | some t =>
    obtain ⟨L, I, W⟩ := t
    exact ⟨_, _, _, _, 0, 0, 0, rfl, rfl, fun w => ErrAt.nil S w, by decide⟩
theorem cells2 {W : World} {g : Nat} {x y : Value} {t : TypeId} {fr : Nat × Nat} (h : W.heap[g]? = some (.cells #[x, y] t fr)) : W.cell? ⟨g, 0, none⟩ = some x ∧ W.cell? ⟨g, 1, none⟩ = some y := ⟨cell_of h 0 rfl, cell_of h 1 rfl⟩
set_option maxHeartbeats 4000000 in
set_option maxRecDepth 100000 in
theorem tilePaths_run : TilePathsFrame.Walk := by
  intro S tl ti tw s w hc hs hB hT hsm
  obtain ⟨h1, h2, h3, h4, h5, h6⟩ := hc
  obtain ⟨L, rfl⟩ := Int.eq_ofNat_of_zero_le h1
  obtain ⟨I, rfl⟩ := Int.eq_ofNat_of_zero_le h3
  have HPA := Lib.hid fun W hB hT => path_any S L I tw (by omega) (by omega) W hB hT
  have HRA := Lib.hid fun W => refPath_any L I tw (by omega) (by omega) W
  have HPS := Lib.hid fun W hB hT => parse_any S s W (by omega) hB hT
  have HRS := Lib.hid fun W => refParse_any s W (by omega)
  obtain ⟨p, ev, k, c, z, e1, e2, he, hk⟩ := paths_both S L I tw
  obtain ⟨x, y, u, fv, j, d, q, f1, f2, hf, hj⟩ := parses_both S s.data.toList
  simp only [e1, tileV] at HPA
  simp only [e2] at HRA
  simp only [f1] at HPS
  simp only [f2] at HRS
  have HBS := Lib.hid hB
  have HTB := Lib.hid hT
  have HE := Lib.hid he
  have HF := Lib.hid hf
  have ek : Value.bool (sameB k none c z) = .bool true := by rw [hk]
  have ej : Value.bool (sameB j none d q) = .bool true := by rw [hj]
  have EK := Lib.hid ek
  have EJ := Lib.hid ej
  clear e1 e2 f1 f2 hB hT he hf hk hj ek ej
  have ex : (x == x) = true := beq_self_eq_true x
  have ey : (y == y) = true := beq_self_eq_true y
  have eu : (u == u) = true := beq_self_eq_true u
  go_enter Tryz.func3, Tryz.ntmps3
  have hpp : (p.toList == p.toList) = true := beq_self_eq_true _
  have B0 := Lib.hid (below_one w (.cells #[.int .u8 (L : Int), .int .u64 (I : Int), .int .i64 tw] 24))
  have RT := Lib.hid (heap_one w (.cells #[.int .u8 (L : Int), .int .u64 (I : Int), .int .i64 tw] 24))
  go_wp2_with fail
  refine (HPA.out _ (HBS.out.below B0.out) (tab_below HTB.out B0.out)).mono ?_
  rintro e w1 ⟨rfl, b1⟩
  have B1 := Lib.hid (below_trans B0.out b1)
  have r1 := below_heap b1 RT.out
  obtain ⟨c0, c1, c2⟩ := cells3 r1
  have l1 := lt_of_heap r1
  clear b1 r1 RT
  dsimp only
  go_wp2_with fail
  refine (HRA.out _).mono ?_
  rintro e w2 ⟨rfl, b2⟩
  have B2 := Lib.hid ((below_trans B1.out b2).alloc (below_trans B1.out b2).size (.cells #[.int .i64 c, .int .i64 z] 30))
  have RF := Lib.hid (heap_one w2 (.cells #[.int .i64 c, .int .i64 z] 30))
  clear b2 c0 c1 c2 l1
  dsimp only
  go_wp2_with fail
  refine (HPS.out _ (HBS.out.below B2.out) (tab_below HTB.out B2.out)).mono ?_
  rintro e w3 ⟨rfl, b3⟩
  have B3 := Lib.hid ((below_trans B2.out b3).alloc (below_trans B2.out b3).size (.cells #[.int .u8 x, .int .u64 y, .int .i64 u] 24))
  have b3' := below_one w3 (.cells #[.int .u8 x, .int .u64 y, .int .i64 u] 24)
  have RF3 := Lib.hid (below_heap b3' (below_heap b3 RF.out))
  have RU := Lib.hid (heap_one w3 (.cells #[.int .u8 x, .int .u64 y, .int .i64 u] 24))
  clear b3 b3' RF
  dsimp only
  go_wp2_with fail
  refine (HRS.out _).mono ?_
  rintro e w4 ⟨rfl, b4⟩
  have b44 := below_two w4 (.cells #[.int .u8 x, .int .u64 y, .int .i64 u] 24) (.cells #[.int .i64 d, .int .i64 q] 30)
  have B4 := Lib.hid (below_trans (below_trans B3.out b4) b44)
  have RF4 := Lib.hid (below_heap b44 (below_heap b4 RF3.out))
  have RU4 := Lib.hid (below_heap b44 (below_heap b4 RU.out))
  have RV4 := Lib.hid (heap_2a w4 (.cells #[.int .u8 x, .int .u64 y, .int .i64 u] 24) (.cells #[.int .i64 d, .int .i64 q] 30))
  have RH4 := Lib.hid (heap_2b w4 (.cells #[.int .u8 x, .int .u64 y, .int .i64 u] 24) (.cells #[.int .i64 d, .int .i64 q] 30))
  obtain ⟨cf0, cf1⟩ := cells2 RF4.out
  have lf := lt_of_heap RF4.out
  have HSA := Lib.hid (same_any S _ ev k none c z (HBS.out.below B4.out) (HE.out _))
  clear b4 b44 RF3 RU
  dsimp only
  go_wp2_with fail
  refine HSA.out.mono ?_
  rintro e w5 ⟨rfl, b5⟩
  rw [EK.out]
  have B5 := Lib.hid (below_trans B4.out b5)
  have RU5 := below_heap b5 RU4.out
  have RV5 := below_heap b5 RV4.out
  have RH5 := below_heap b5 RH4.out
  obtain ⟨u0, u1, u2⟩ := cells3 RU5
  obtain ⟨v0, v1, v2⟩ := cells3 RV5
  obtain ⟨h0, h1⟩ := cells2 RH5
  have lu := lt_of_heap RU5
  have lv := lt_of_heap RV5
  have lh := lt_of_heap RH5
  have HSB := Lib.hid (same_any S _ fv j none d q (HBS.out.below B5.out) (HF.out _))
  clear b5 RU5 RV5 RH5 cf0 cf1 lf HSA
  go_wp2_with fail
  refine HSB.out.mono ?_
  rintro e w6 ⟨rfl, b6⟩
  rw [EJ.out]
  have B6 := Lib.hid (below_trans B5.out b6)
  have HL := Lib.hid (livesT_any S _ (HBS.out.below B6.out) (tab_below HTB.out B6.out))
  clear b6 u0 u1 u2 v0 v1 v2 h0 h1 lu lv lh HSB
  go_wp2_with fail
  refine HL.out.mono ?_
  rintro e w7 ⟨rfl, b7⟩
  have B7 := Lib.hid (below_trans B6.out b7)
  clear b7
  go_wp2_with fail
  go_ret
  exact ⟨rfl, B7.out⟩
theorem tilePaths_card : Rows.TilePathsUptoCardSaid := TilePathsFrame.card tilePaths_run
#print axioms tilePaths_card
end Go.Proofs.YtopilalefilkjaaGreatDoor
