/-
  cartularylaw11.TileCovers: of a whole tree whose leaves a log has the tile is there, wide enough, and the hashes that are named cover just its leaves; the chapter's examples hold: the law's function returns true, for every argument, and never panics; it writes to no memory that was there.
-/
import Derived.Test.YtmnaepkgfaillaaGreatDoorTileLives
import Derived.Test.YtmnaepkgfaillaaGreatDoorTileCoversFrame
namespace Go.Proofs.YtmnaepkgfaillaaGreatDoor
open Go.RowKit

theorem ar256 (m r : Nat) : m / 256 * 256 + (m % 256 + r) + 1 = m + r + 1 := by omega

/-- What the law wants of a whole tree's place, plain. -/
theorem covers_plain {L I : Nat} (h : WholeP L I) : ∃ lv ix at' r : Nat, ∃ wd : Int, ofV L I = .tuple #[.agg #[.int .u8 (lv : Int), .int .u64 (ix : Int), .int .i64 wd], .int .i64 (at' : Int), .int .i64 ((r + 1 : Nat) : Int), .bool true] ∧
    lv ≤ 7 ∧ (wd = 128 ∨ wd = 256) ∧ ((at' + (r + 1) : Nat) : Int) ≤ wd ∧ at' % (r + 1) = 0 ∧ WholeP (8 * lv) (ix * 256 + at') ∧ (ix * 256 + at') * 2 ^ (8 * lv) = I * 2 ^ L ∧ WholeP (8 * lv) (ix * 256 + (at' + r)) ∧ (ix * 256 + (at' + r) + 1) * 2 ^ (8 * lv) = (I + 1) * 2 ^ L ∧
    ix * 256 + at' + r < 9223372036854775808 ∧ (I + 1) * 2 ^ L ≤ 9223372036854775808 ∧
    ∀ Z, (I + 1) * 2 ^ L ≤ Z → Z ≤ 9223372036854775808 → InP lv ix Z ∧ at' + (r + 1) ≤ inW lv ix Z ∧ ((inW lv ix Z : Nat) : Int) ≤ wd := by
  obtain ⟨hL, hE⟩ := h
  have hj : L % 8 ≤ 7 := by omega
  have hLe : L = 8 * (L / 8) + L % 8 := by omega
  have hpow : 2 ^ L = 2 ^ (L % 8) * 2 ^ (8 * (L / 8)) := by
    rw [← Nat.pow_add, show L % 8 + 8 * (L / 8) = L by omega]
  have hP : 1 ≤ 2 ^ (8 * (L / 8)) := Nat.one_le_two_pow
  have hq : ∃ r, 2 ^ (L % 8) = r + 1 := ⟨2 ^ (L % 8) - 1, by have := Nat.one_le_two_pow (n := L % 8); omega⟩
  obtain ⟨r, hr⟩ := hq
  have hdv : (r + 1) ∣ 256 := ⟨2 ^ (8 - L % 8), by rw [← hr, ← Nat.pow_add, show L % 8 + (8 - L % 8) = 8 by omega]⟩
  have hq128 : r + 1 ≤ 128 := by
    rw [← hr]
    exact Nat.pow_le_pow_right (by omega) hj (n := 2)
  obtain ⟨k, hk⟩ := hdv
  -- m = I * q; its place in the tile
  have hm1 : I * (r + 1) % 256 % (r + 1) = 0 := by
    rw [Nat.mod_mod_of_dvd _ ⟨k, hk⟩, Nat.mul_mod_left]
  have hm2 : I * (r + 1) % 256 + (r + 1) ≤ 256 := by
    obtain ⟨c, hc⟩ : ∃ c, I * (r + 1) % 256 = (r + 1) * c := ⟨I * (r + 1) % 256 / (r + 1), by have := Nat.div_add_mod (I * (r + 1) % 256) (r + 1); rw [hm1] at this; omega⟩
    have hlt : (r + 1) * c < (r + 1) * k := by rw [← hc, ← hk]; exact Nat.mod_lt _ (by omega)
    have hck : c < k := Nat.lt_of_mul_lt_mul_left hlt
    have : (r + 1) * (c + 1) ≤ (r + 1) * k := Nat.mul_le_mul_left _ hck
    rw [Nat.mul_add, Nat.mul_one] at this
    omega
  have hB : I * (r + 1) * 2 ^ (8 * (L / 8)) = I * 2 ^ L := by rw [hpow, hr, Nat.mul_assoc]
  have hE2 : (I * (r + 1) + r + 1) * 2 ^ (8 * (L / 8)) = (I + 1) * 2 ^ L := by
    rw [hpow, hr, ← Nat.mul_assoc]
    congr 1
    rw [Nat.add_mul]
    omega
  have hsum : I * (r + 1) / 256 * 256 + I * (r + 1) % 256 = I * (r + 1) := by omega
  have hmq : I * (r + 1) + r + 1 ≤ 9223372036854775808 := by
    have h1 : (I * (r + 1) + r + 1) * 1 ≤ (I * (r + 1) + r + 1) * 2 ^ (8 * (L / 8)) := Nat.mul_le_mul_left _ hP
    rw [hE2] at h1
    omega
  have h7 : L / 8 = 7 → I * (r + 1) + r + 1 ≤ 128 := by
    intro h
    rw [h] at hE2
    rw [← hE2] at hE
    have h56 : (2 : Nat) ^ (8 * 7) = 72057594037927936 := by decide
    rw [h56] at hE
    omega
  refine ⟨L / 8, I * (r + 1) / 256, I * (r + 1) % 256, r, if L / 8 = 7 then 128 else 256, ?_, by omega, ?_, ?_, hm1, ⟨by omega, ?_⟩, by rw [hsum]; exact hB, ⟨by omega, ?_⟩, ?_, by omega, hE, ?_⟩
  · unfold ofV
    rw [if_pos ⟨hL, hE⟩, hr]
    rfl
  · split
    · exact .inl rfl
    · exact .inr rfl
  · split
    · rename_i h
      have := h7 h
      omega
    · omega
  · rw [hsum]
    refine Nat.le_trans ?_ hE
    rw [← hE2]
    exact Nat.mul_le_mul_right _ (by omega)
  · rw [ar256, hE2]
    exact hE
  · rw [ar256, hE2]
  · intro Z hZ hZ2
    have hn : I * (r + 1) + r + 1 ≤ Z / 2 ^ (8 * (L / 8)) := by
      rw [Nat.le_div_iff_mul_le (Nat.two_pow_pos _), hE2]
      exact hZ
    have h7n : L / 8 = 7 → Z / 2 ^ (8 * (L / 8)) ≤ 128 := by
      intro h
      rw [h]
      have h56 : (2 : Nat) ^ (8 * 7) = 72057594037927936 := by decide
      rw [h56]
      omega
    unfold InP inW
    refine ⟨⟨by omega, hZ2, by omega⟩, by omega, ?_⟩
    split
    · rename_i h
      have := h7n h
      omega
    · omega

/-- The same, the count and the last hash's place by their names. -/
theorem covers_plain2 {L I : Nat} (h : WholeP L I) : ∃ lv ix at' q b : Nat, ∃ wd : Int, ofV L I = .tuple #[.agg #[.int .u8 (lv : Int), .int .u64 (ix : Int), .int .i64 wd], .int .i64 (at' : Int), .int .i64 (q : Int), .bool true] ∧
    1 ≤ q ∧ b + 1 = at' + q ∧ q ≤ 256 ∧
    lv ≤ 7 ∧ (wd = 128 ∨ wd = 256) ∧ ((at' + q : Nat) : Int) ≤ wd ∧ at' % q = 0 ∧ WholeP (8 * lv) (ix * 256 + at') ∧ (ix * 256 + at') * 2 ^ (8 * lv) = I * 2 ^ L ∧ WholeP (8 * lv) (ix * 256 + b) ∧ (ix * 256 + b + 1) * 2 ^ (8 * lv) = (I + 1) * 2 ^ L ∧
    ix * 256 + b < 9223372036854775808 ∧ (I + 1) * 2 ^ L ≤ 9223372036854775808 ∧
    ∀ Z, (I + 1) * 2 ^ L ≤ Z → Z ≤ 9223372036854775808 → InP lv ix Z ∧ at' + q ≤ inW lv ix Z ∧ ((inW lv ix Z : Nat) : Int) ≤ wd := by
  obtain ⟨lv, ix, at', r, wd, hv, hlv, hwd, haw, hmod, hw1, hB1, hw2, hE2, hbig, hEle, hin⟩ := covers_plain h
  have e1 : r + 1 ≤ 256 := by clear hB1 hE2 hw1 hw2 hEle hin; rcases hwd with h | h <;> omega
  exact ⟨lv, ix, at', r + 1, at' + r, wd, hv, Nat.le_add_left 1 r, Nat.add_assoc _ _ _, e1, hlv, hwd, haw, hmod, hw1, hB1, hw2, hE2, by rw [← Nat.add_assoc]; exact hbig, hEle, hin⟩

theorem in_form {lv ix Z at' q En : Nat} {wd : Int} (h : ∀ Z, En ≤ Z → Z ≤ 9223372036854775808 → InP lv ix Z ∧ at' + q ≤ inW lv ix Z ∧ ((inW lv ix Z : Nat) : Int) ≤ wd) :
    ∃ x y z : Int, ∃ k : Bool, inV lv ix Z = .tuple #[.agg #[.int .u8 x, .int .u64 y, .int .i64 z], .bool k] ∧ (En ≤ Z → Z ≤ 9223372036854775808 → k = true ∧ x = lv ∧ y = ix ∧ (at' : Int) + q ≤ z ∧ z ≤ wd) := by
  unfold inV
  by_cases hp : InP lv ix Z
  · refine ⟨lv, ix, inW lv ix Z, true, by rw [if_pos hp]; rfl, fun h1 h2 => ?_⟩
    obtain ⟨-, h3, h4⟩ := h Z h1 h2
    exact ⟨rfl, rfl, rfl, by omega, h4⟩
  · exact ⟨0, 0, 0, false, by rw [if_neg hp]; rfl, fun h1 h2 => absurd (h Z h1 h2).1 hp⟩

set_option maxHeartbeats 4000000 in
set_option maxRecDepth 100000 in
theorem tileCovers_walk : TileCoversFrame.Walk := by
  intro S cl ci n1 w hc hz hB hT
  obtain ⟨h1, h2, h3, h4⟩ := hc
  obtain ⟨L, rfl⟩ := Int.eq_ofNat_of_zero_le h1
  obtain ⟨I, rfl⟩ := Int.eq_ofNat_of_zero_le h3
  obtain ⟨Z, rfl⟩ := Int.eq_ofNat_of_zero_le hz.1
  have HO := Lib.hid fun W => of_any L I (by omega) (by omega) W
  have HS := Lib.hid fun W => span_any L I (by omega) (by omega) W
  have HBS := Lib.hid hB
  have HTB := Lib.hid hT
  clear hB hT
  by_cases hw : WholeP L I
  · obtain ⟨lv, ix, at', q, b, wd, hv, hq1, hbq, hq2, hlv, hwd, haw, hmod, hw1, hB1, hw2, hE2, hbig, hEle, hin⟩ := covers_plain2 hw
    rw [hv] at HO
    simp only [if_pos hw] at HS
    have HS1 := Lib.hid fun W => span_any (8 * lv) (ix * 256 + at') (by omega) (by omega) W
    have HS2 := Lib.hid fun W => span_any (8 * lv) (ix * 256 + b) (by omega) (by omega) W
    have HIN := Lib.hid fun W => in_any lv ix Z (by omega) (by omega) (by omega) W
    simp only [if_pos hw1, hB1] at HS1
    simp only [if_pos hw2, hE2] at HS2
    generalize hB0 : I * 2 ^ L = Bg at *
    generalize hE0 : (I + 1) * 2 ^ L = En at *
    generalize (ix * 256 + at' + 1) * 2 ^ (8 * lv) = E1 at *
    generalize (ix * 256 + b) * 2 ^ (8 * lv) = B2 at *
    have g1 : ((at' : Int) + (q : Int)) ≤ wd := by omega
    have hixb : ix ≤ 36028797018963967 := by omega
    have hat : at' + q ≤ 256 := by rcases hwd with h | h <;> omega
    have hmd : (at' : Int) % (q : Int) = 0 := by rw [← Int.natCast_emod, hmod]; rfl
    obtain ⟨x, y, z, k, hiv, hik⟩ := in_form (Z := Z) hin
    rw [hiv] at HIN
    have HIK := Lib.hid hik
    have HMD := Lib.hid hmd
    have HBG := Lib.hid hbig
    clear hbig hin hmd hik hiv hv hw hw1 hw2 hB1 hE2 hB0 hE0 hmod
    go_enter Tryz.func6, Tryz.ntmps6
    go_wp2_with fail
    refine (HO.out _).mono ?_
    rintro e w1 ⟨rfl, b1⟩
    have R0 := Lib.hid (below_heap b1 (heap_one w _))
    have P1 := Lib.hid (below_trans (below_one w _) b1)
    have c0 := cell_of R0.out 0 (v := .int .u8 (L : Int)) rfl
    have c1 := cell_of R0.out 1 (v := .int .u64 (I : Int)) rfl
    have l0 := lt_of_heap R0.out
    clear b1
    go_wp2_with fail
    refine (HS.out _).mono ?_
    rintro e w2 ⟨rfl, b2⟩
    have RT := Lib.hid (below_heap b2 (heap_one w1 _))
    have P2 := Lib.hid (below_trans (P1.out.alloc P1.out.size (.cells #[.int .u8 (lv : Int), .int .u64 (ix : Int), .int .i64 wd] 26)) b2)
    obtain ⟨t0, t1, t2⟩ := cells3 RT.out
    have lt := lt_of_heap RT.out
    clear b2 c0 c1
    dsimp only
    have hwd2 : 128 ≤ wd ∧ wd ≤ 256 := by omega
    have hm1 : (at' : Int) % (q : Int) = 0 := HMD.out
    have hm2 : ((at' % q : Nat) : Int) = 0 := HMD.out
    go_wp2_with fail
    have e1 : (8 * (lv : Int)) = ((8 * lv : Nat) : Int) := by omega
    have e2 : ((ix : Int) * 256 + (at' : Int)) = ((ix * 256 + at' : Nat) : Int) := by omega
    rw [e1, e2]
    refine (HS1.out _).mono ?_
    rintro e w3 ⟨rfl, b3⟩
    have RS := Lib.hid (below_heap b3 (heap_one w2 _))
    have RT2 := Lib.hid (below_heap b3 ((heap_alloc_old w2 (.cells #[.int .u64 (Bg : Int), .int .u64 (En : Int)] 49) lt).trans RT.out))
    have P3 := Lib.hid (below_trans (P2.out.alloc P2.out.size (.cells #[.int .u64 (Bg : Int), .int .u64 (En : Int)] 49)) b3)
    have s0 := cell_of RS.out 0 (v := .int .u64 (Bg : Int)) rfl
    have s1 := cell_of RS.out 1 (v := .int .u64 (En : Int)) rfl
    clear t0 t1 t2
    obtain ⟨t0, t1, t2⟩ := cells3 RT2.out
    have lt3 := lt_of_heap RT2.out
    have ls3 := lt_of_heap RS.out
    clear b3 e1 e2
    dsimp only
    go_wp2_with fail
    have e1 : (8 * (lv : Int)) = ((8 * lv : Nat) : Int) := by omega
    have e2 : ((ix : Int) * 256 + ((at' : Int) + (q : Int) - 1)) = ((ix * 256 + b : Nat) : Int) := by omega
    rw [e1, e2]
    refine (HS2.out _).mono ?_
    rintro e w4 ⟨rfl, b4⟩
    have RU := Lib.hid (below_heap b4 (heap_one w3 _))
    have RS2 := Lib.hid (below_heap b4 ((heap_alloc_old w3 (.cells #[.int .u64 (Bg : Int), .int .u64 (E1 : Int)] 49) ls3).trans RS.out))
    have RT3 := Lib.hid (below_heap b4 ((heap_alloc_old w3 (.cells #[.int .u64 (Bg : Int), .int .u64 (E1 : Int)] 49) lt3).trans RT2.out))
    have P4 := Lib.hid (below_trans (P3.out.alloc P3.out.size (.cells #[.int .u64 (Bg : Int), .int .u64 (E1 : Int)] 49)) b4)
    have u0 := cell_of RU.out 0 (v := .int .u64 (Bg : Int)) rfl
    clear t0 t1 t2 s0 s1 lt lt3 ls3
    have s0 := cell_of RS2.out 0 (v := .int .u64 (Bg : Int)) rfl
    have s1 := cell_of RS2.out 1 (v := .int .u64 (En : Int)) rfl
    obtain ⟨t0, t1, t2⟩ := cells3 RT3.out
    have lt4 := lt_of_heap RT3.out
    have ls4 := lt_of_heap RS2.out
    have lu4 := lt_of_heap RU.out
    clear b4 e1 e2
    dsimp only
    go_wp2_with fail
    refine (HIN.out _).mono ?_
    rintro e w5 ⟨rfl, b5⟩
    have RS3 := Lib.hid (below_heap b5 ((heap_alloc_old w4 (.cells #[.int .u64 (B2 : Int), .int .u64 (En : Int)] 49) ls4).trans RS2.out))
    have RT4 := Lib.hid (below_heap b5 ((heap_alloc_old w4 (.cells #[.int .u64 (B2 : Int), .int .u64 (En : Int)] 49) lt4).trans RT3.out))
    have P5 := Lib.hid (below_trans (P4.out.alloc P4.out.size (.cells #[.int .u64 (B2 : Int), .int .u64 (En : Int)] 49)) b5)
    clear t0 t1 t2 s0 s1 u0 lt4 ls4 lu4
    have s1 := cell_of RS3.out 1 (v := .int .u64 (En : Int)) rfl
    obtain ⟨t0, t1, t2⟩ := cells3 RT4.out
    have lt5 := lt_of_heap RT4.out
    have ls5 := lt_of_heap RS3.out
    have b6 := P5.out.alloc P5.out.size (.cells #[.int .u8 x, .int .u64 y, .int .i64 z] 26)
    have HL := Lib.hid (livesT_any S _ (HBS.out.below b6) (tab_below HTB.out b6))
    have B6 := Lib.hid b6
    clear b5 b6
    by_cases hZc : En ≤ Z ∧ Z ≤ 9223372036854775808
    · obtain ⟨rfl, rfl, rfl, hk1, hk2⟩ := HIK.out hZc.1 hZc.2
      have hz1 : (En : Int) ≤ Z := by omega
      have hz2 : (Z : Int) ≤ 9223372036854775808 := by omega
      dsimp only
      go_wp2_with fail
      refine HL.out.mono ?_
      rintro e w7 ⟨rfl, b7⟩
      have B7 := Lib.hid (below_trans B6.out b7)
      clear b7
      dsimp only
      go_wp2_with fail
      go_ret
      exact ⟨rfl, B7.out⟩
    · dsimp only
      go_wp2_with fail
      all_goals (refine HL.out.mono ?_; rintro e w7 ⟨rfl, b7⟩; have B7 := Lib.hid (below_trans B6.out b7); clear b7; dsimp only; go_wp2_with fail; go_ret; exact ⟨rfl, B7.out⟩)
  · have hv : ofV L I = .tuple #[.agg #[.int .u8 0, .int .u64 0, .int .i64 0], .int .i64 0, .int .i64 0, .bool false] := by unfold ofV; rw [if_neg hw]; rfl
    rw [hv] at HO
    simp only [if_neg hw] at HS
    go_enter Tryz.func6, Tryz.ntmps6
    go_wp2_with fail
    refine (HO.out _).mono ?_
    rintro e w1 ⟨rfl, b1⟩
    have R0 := Lib.hid (below_heap b1 (heap_one w _))
    have P1 := Lib.hid (below_trans (below_one w _) b1)
    have c0 := cell_of R0.out 0 (v := .int .u8 (L : Int)) rfl
    have c1 := cell_of R0.out 1 (v := .int .u64 (I : Int)) rfl
    have l0 := lt_of_heap R0.out
    clear b1
    go_wp2_with fail
    refine (HS.out _).mono ?_
    rintro e w2 ⟨rfl, b2⟩
    have RT := Lib.hid (below_heap b2 (heap_one w1 _))
    have P2 := Lib.hid (below_trans (P1.out.alloc P1.out.size (.cells #[.int .u8 0, .int .u64 0, .int .i64 0] 26)) b2)
    obtain ⟨t0, t1, t2⟩ := cells3 RT.out
    have lt := lt_of_heap RT.out
    have b3 := P2.out.alloc P2.out.size (.cells #[.int .u64 0, .int .u64 0] 49)
    have HL := Lib.hid (livesT_any S _ (HBS.out.below b3) (tab_below HTB.out b3))
    have B3 := Lib.hid b3
    clear b2 b3 c0 c1
    go_wp2_with fail
    refine HL.out.mono ?_
    rintro e w4 ⟨rfl, b4⟩
    have B4 := Lib.hid (below_trans B3.out b4)
    clear b4
    go_wp2_with fail
    go_ret
    exact ⟨rfl, B4.out⟩

theorem tileCovers_card : Rows.TileCoversCardSaid := TileCoversFrame.card tileCovers_walk
#print axioms tileCovers_card
end Go.Proofs.YtmnaepkgfaillaaGreatDoor
