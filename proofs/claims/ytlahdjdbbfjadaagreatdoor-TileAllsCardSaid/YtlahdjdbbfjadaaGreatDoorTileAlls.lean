/-
  PROVED: cartularylaw11.TileAlls returns true for every size (the tied card of its row): all tiles of a log of any size, or the error; each list is new memory. Conditions: those of the row.
-/
import Derived.Test.YtlahdjdbbfjadaaGreatDoorTileAllR
import Derived.Test.YtlahdjdbbfjadaaGreatDoorBookATi
import Derived.Test.YtlahdjdbbfjadaaGreatDoorTileLives
import Derived.Test.YtlahdjdbbfjadaaGreatDoorTileAllsFrame
namespace Go.Proofs.YtlahdjdbbfjadaaGreatDoor
open Go.RowKit

theorem owns_weak {B B' : Nat} {w : World} {e : TypeId} {size : Nat} {v : Value} {n : Nat} {xs : List Value} (h : w.ownsRow B e size v n xs) (hB : B' ≤ B) : w.ownsRow B' e size v n xs := by
  refine ⟨h.1, ?_⟩
  rcases h.2 with h' | ⟨g, cap, cur, rfl, hg, hr⟩
  · exact .inl h'
  · exact .inr ⟨g, cap, cur, rfl, Nat.le_trans hB hg, hr⟩
theorem book_lit : (#[.int .i64 0, .slice none 0 0, .slice none 0 0, .slice none 0 0, .slice none 0 0, .slice none 0 0, .slice none 0 0, .slice none 0 0, .slice none 0 0, .slice none 0 0, .slice none 0 0, .slice none 0 0, .slice none 0 0, .slice none 0 0, .slice none 0 0, .slice none 0 0, .slice none 0 0] : Array Value) = bookRowTi := rfl
set_option maxHeartbeats 4000000 in
set_option maxRecDepth 100000 in
theorem alls_walk (S : Nat → Addr) (Z : Nat) (L : List T3) (ev : Value) (ec : Nat) (c z : Int) (w : World) (hB : Base S w) (hT : Tab w) (hL : L.length ≤ 1048576)
    (hE : ∀ W, Base S W → ErrAt S W ev ec none) (hsame : sameB ec none c z = true)
    (h1 : ∀ W, Below w.heap.size w W → Calls Tryz.prog 19 #[.int .u64 (Z : Int)] W fun e w' => (∃ vl, e = .returned (.tuple #[vl, ev]) ∧ w'.ownsRow W.heap.size 93 3 vl L.length (tcells L)) ∧ Below W.heap.size W w')
    (h2 : ∀ W, Calls Tryz.prog 20 #[.int .u64 (Z : Int)] W fun e w' => (∃ vl, e = .returned (.tuple #[vl, .agg #[.int .i64 c, .int .i64 z]]) ∧ w'.ownsRow W.heap.size 93 3 vl L.length (tcells L)) ∧ Below W.heap.size W w') :
    Calls Tryz.prog 4 #[.int .u64 (Z : Int)] w fun e w' => e = .returned (.bool true) ∧ Below w.heap.size w w' := by
  have HB := Lib.hid hB
  have HT := Lib.hid hT
  have HE := Lib.hid hE
  have HSM := Lib.hid hsame
  have H1 := Lib.hid h1
  have H2 := Lib.hid h2
  have HLL := Lib.hid hL
  clear hB hT hE hsame h1 h2 hL
  go_enter Tryz.func4, Tryz.ntmps4
  go_wp2_with (go_at_call 19; refine (H1.out w (Below.refl _ _)).mono ?_)
  first
    | rintro e w1 va rfl ho1 hb1
    | rintro e w1 ⟨va, rfl, ho1⟩ hb1
    | rintro e w1 ⟨⟨va, rfl, ho1⟩, hb1⟩
  obtain ⟨aa, ca, rfl⟩ := owns_any ho1
  have OA1 := Lib.hid ho1
  have B1 := Lib.hid hb1
  clear ho1 hb1
  go_wp2_with (go_at_call 19; refine (H1.out w1 B1.out).mono ?_)
  first
    | rintro e w2 vb rfl ho2 hb2
    | rintro e w2 ⟨vb, rfl, ho2⟩ hb2
    | rintro e w2 ⟨⟨vb, rfl, ho2⟩, hb2⟩
  obtain ⟨ab, cb, rfl⟩ := owns_any ho2
  have OA2 := Lib.hid (owns_below OA1.out hb2)
  have OB2 := Lib.hid ho2
  have B2 := Lib.hid (B1.out.trans (hb2.mono B1.out.size))
  have HGA := Lib.hid fun g hg => (OA1.out.lt g hg).2
  clear ho2 hb2
  go_wp2_with (go_at_call 20; refine (H2.out w2).mono ?_)
  first
    | rintro e w3 vc rfl ho3 hb3
    | rintro e w3 ⟨vc, rfl, ho3⟩ hb3
    | rintro e w3 ⟨⟨vc, rfl, ho3⟩, hb3⟩
  obtain ⟨ac, cc, rfl⟩ := owns_any ho3
  have b34 := below_one w3 (.cells #[.int .i64 c, .int .i64 z] 30)
  have OA4 := Lib.hid (owns_below (owns_below OA2.out hb3) b34)
  have OB4 := Lib.hid (owns_below (owns_below OB2.out hb3) b34)
  have OC4 := Lib.hid (owns_below ho3 b34)
  have HF4 := Lib.hid (heap_one w3 (.cells #[.int .i64 c, .int .i64 z] 30))
  have B4 := Lib.hid ((B2.out.trans (hb3.mono B2.out.size)).trans (b34.mono (Nat.le_trans B2.out.size hb3.size)))
  clear ho3 hb3 b34
  go_upto_region 4 with fail
  generalize (w3.alloc (.cells #[.int .i64 c, .int .i64 z] 30)) = w4 at *
  have HS1 := Lib.hid (sameTiles_any _ _ L _ _ w4 HLL.out OA4.out OC4.out)
  go_wp2_with (go_at_call 21; refine HS1.out.mono ?_)
  first
    | rintro e w5 rfl hb5
    | rintro e w5 ⟨rfl, hb5⟩
  have OA5 := Lib.hid (owns_below OA4.out hb5)
  have OB5 := Lib.hid (owns_below OB4.out hb5)
  have OC5 := Lib.hid (owns_below OC4.out hb5)
  have HF5 := Lib.hid (below_heap hb5 HF4.out)
  have B5 := Lib.hid (B4.out.trans (hb5.mono B4.out.size))
  clear hb5
  have HS2 := Lib.hid (sameTiles_any _ _ L _ _ w5 HLL.out OB5.out OC5.out)
  go_wp2_with (go_at_call 21; refine HS2.out.mono ?_)
  first
    | rintro e w6 rfl hb6
    | rintro e w6 ⟨rfl, hb6⟩
  have OA6 := Lib.hid (owns_below OA5.out hb6)
  have OB6 := Lib.hid (owns_below OB5.out hb6)
  have hf6 := below_heap hb6 HF5.out
  have B6 := Lib.hid (B5.out.trans (hb6.mono B5.out.size))
  have f0 := cell_of hf6 0 (v := .int .i64 c) rfl
  have f1 := cell_of hf6 1 (v := .int .i64 z) rfl
  have lf := lt_of_heap hf6
  have HSA := Lib.hid (same_any S w6 ev ec none c z (HB.out.below B6.out) (HE.out _ (HB.out.below B6.out)))
  clear hb6 hf6
  go_wp2_with (go_at_call 13; refine HSA.out.mono ?_)
  first
    | rintro e w7 rfl hb7
    | rintro e w7 ⟨rfl, hb7⟩
  rw [HSM.out]
  have OA7 := Lib.hid (owns_below OA6.out hb7)
  have OB7 := Lib.hid (owns_below OB6.out hb7)
  have B7 := Lib.hid (B6.out.trans (hb7.mono B6.out.size))
  clear hb7 f0 f1 lf
  have hbk := book_lit
  have HK0 := Lib.hid (keep_startTi w7 w7 (V2Ti (.slice aa L.length ca) (.slice ab L.length cb)) (Below.refl _ _))
  have HKB := Lib.hid fun g hg => (OB7.out.lt g hg).2
  have HKA := Lib.hid fun g hg => (OA7.out.lt g hg).2
  have HOB := Lib.hid fun g hg => (OB2.out.lt g hg).1
  go_upto_region 7 with fail
  generalize hw8 : (w7.alloc (.cells bookRowTi 56)) = w8 at *
  clear hbk
  generalize hkb : w7.heap.size = kb at *
  have HQ1 := Lib.hid (show Calls Tryz.prog 22 #[.pointer (some ⟨kb, 0, none⟩), .slice aa L.length ca] w8 fun e w' => e = .returned (.tuple #[]) ∧ ∃ tv', KeepSTi w7 w' kb 1 tv' (V2Ti (.slice aa L.length ca) (.slice ab L.length cb)) from keepAll_anyTi w7 w8 kb 0 _ (V2Ti (.slice aa L.length ca) (.slice ab L.length cb)) HK0.out ⟨_, _, _, rfl⟩ (by decide))
  clear HK0 hw8
  go_wp2_with (go_at_call 22; refine HQ1.out.mono ?_)
  first
    | rintro e w9 rfl tv1 hk1
    | rintro e w9 ⟨rfl, tv1, hk1⟩
  have HQ2 := Lib.hid (show Calls Tryz.prog 22 #[.pointer (some ⟨kb, 0, none⟩), .slice ab L.length cb] w9 fun e w' => e = .returned (.tuple #[]) ∧ ∃ tv', KeepSTi w7 w' kb 2 tv' (V2Ti (.slice aa L.length ca) (.slice ab L.length cb)) from keepAll_anyTi w7 w9 kb 1 tv1 (V2Ti (.slice aa L.length ca) (.slice ab L.length cb)) hk1 ⟨_, _, _, rfl⟩ (by decide))
  clear hk1 HQ1
  go_wp2_with (go_at_call 22; refine HQ2.out.mono ?_)
  first
    | rintro e w10 rfl tv2 hk2
    | rintro e w10 ⟨rfl, tv2, hk2⟩
  have HAP := Lib.hid (apart2_anyTi w w10 kb tv2 (.slice aa L.length ca) (.slice ab L.length cb) L.length L.length (tcells L) (tcells L) (hk2.weaken B7.out) (owns_below OA7.out hk2.bel) (owns_weak (owns_below OB7.out hk2.bel) B1.out.size)
    (fun g hg => ⟨HKA.out g hg, fun he => by have h1 := HGA.out g hg; have h2 := HOB.out g he; omega⟩) (fun g hg => ⟨HKB.out g hg, fun he => by have h1 := HGA.out g he; have h2 := HOB.out g hg; omega⟩) HLL.out HLL.out)
  clear hk2 HQ2
  go_wp2_with (go_at_call 17; refine HAP.out.mono ?_)
  first
    | rintro e w11 rfl hb11
    | rintro e w11 ⟨rfl, hb11⟩
  have B11 := Lib.hid hb11
  have HLV := Lib.hid (livesT_any S w11 (HB.out.below B11.out) (tab_below HT.out B11.out))
  clear hb11
  go_wp2_with (go_at_call 18; refine HLV.out.mono ?_)
  first
    | rintro e w12 rfl hb12
    | rintro e w12 ⟨rfl, hb12⟩
  have B12 := Lib.hid (B11.out.trans (hb12.mono B11.out.size))
  clear hb12
  go_wp2_with fail
  go_ret
  exact ⟨rfl, B12.out⟩
theorem alls_any : TileAllsFrame.Walk := by
  intro S n0 w hn hB hT
  obtain ⟨Z, rfl⟩ := Int.eq_ofNat_of_zero_le hn.1
  by_cases hZ : Z ≤ 1048576
  · refine alls_walk S Z (pre Z 8) .nilIface 0 0 0 w hB hT (by have := pre_len Z 8 hZ; omega) (fun W hW => .inl ⟨rfl, rfl, rfl⟩) (by decide) (fun W hb => ?_) (fun W => rall_any Z hZ W)
    exact (all_any Z hZ W).mono fun e w' ⟨vl, h1, h2, h3⟩ => ⟨⟨vl, h1, h2⟩, h3⟩
  · refine alls_walk S Z [] (errV S 5) 5 5 (-1) w hB hT (by decide) (fun W hW => .inr (.inl ⟨by omega, by omega, rfl, rfl⟩)) (by decide) (fun W hb => ?_) (fun W => ?_)
    · exact (all_over S Z (by omega) (by omega) W (hB.below hb)).mono fun e w' ⟨h1, h2⟩ => ⟨⟨_, h1, World.ownsRow_nil _ _ _ _⟩, h2⟩
    · exact (rall_over Z (by omega) W).mono fun e w' ⟨h1, h2⟩ => ⟨⟨_, h1, World.ownsRow_nil _ _ _ _⟩, h2⟩
/-- The claim. -/
theorem tileAlls_card : Rows.TileAllsCardSaid := TileAllsFrame.card alls_any
end Go.Proofs.YtlahdjdbbfjadaaGreatDoor
