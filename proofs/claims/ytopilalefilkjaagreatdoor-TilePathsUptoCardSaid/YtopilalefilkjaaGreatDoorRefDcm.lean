/-
  cartularyref03: Decimal by its contract.
-/
import Derived.Test.YtopilalefilkjaaGreatDoorRefDec
import Derived.Test.YtopilalefilkjaaGreatDoorRefB64
namespace Go.Proofs.YtopilalefilkjaaGreatDoor
open Go.RowKit

def sl0 : Value → Nat
  | .slice _ n _ => if n = 0 then 1 else 0
  | _ => 0
theorem owns_form {B : Nat} {w : World} {t : TypeId} {v : Value} {n : Nat} {cs : List Value} (h : w.ownsRow B t 1 v n cs) : ∃ ao cap, v = .slice ao n cap := by
  rcases h.2 with ⟨rfl, rfl⟩ | ⟨g, cap, cur, rfl, _⟩
  · exact ⟨none, 0, rfl⟩
  · exact ⟨_, _, rfl⟩
def Dig1Rel (N : Nat) (w : World) (vu vb : Value) (wr : World) : Prop :=
  ∃ (u : Nat) (B : List UInt8), u ≤ 18446744073709551615 ∧ vu = .int .u64 u ∧ wr.ownsRow w.heap.size 5 1 vb B.length (Lib.byteCells B) ∧ Below w.heap.size w wr ∧ B.length ≤ 20 ∧
    (((0 < u ∨ B = []) ∧ Lib.decDigits u ++ B.reverse = Lib.decDigits N) ∨ (u = 0 ∧ B ≠ [] ∧ B.reverse = Lib.decDigits N))
theorem dig_step {N u : Nat} {B : List UInt8} (hN : N ≤ 18446744073709551615) (h : Lib.decDigits u ++ B.reverse = Lib.decDigits N) :
    (B ++ [UInt8.ofNat (48 + u % 10)]).length ≤ 20 ∧ (((0 < u / 10 ∨ (B ++ [UInt8.ofNat (48 + u % 10)]) = []) ∧ Lib.decDigits (u / 10) ++ (B ++ [UInt8.ofNat (48 + u % 10)]).reverse = Lib.decDigits N) ∨
      (u / 10 = 0 ∧ (B ++ [UInt8.ofNat (48 + u % 10)]) ≠ [] ∧ (B ++ [UInt8.ofNat (48 + u % 10)]).reverse = Lib.decDigits N)) := by
  have hlen : (Lib.decDigits u).length + B.length ≤ 20 := by
    have := congrArg List.length h
    rw [List.length_append, List.length_reverse, Lib.decDigits_length N] at this
    have := nDigits_20 N hN
    omega
  have hpos := Lib.nDigits_pos u
  rw [Lib.decDigits_length] at hlen
  refine ⟨by simp; omega, ?_⟩
  rw [List.reverse_append, List.reverse_singleton, List.singleton_append]
  by_cases h10 : u < 10
  · refine .inr ⟨by omega, by simp, ?_⟩
    rw [← h, Lib.decDigits_one h10, show u % 10 = u by omega]; rfl
  · refine .inl ⟨.inl (by omega), ?_⟩
    rw [← h, decDigits_snoc h10, List.append_assoc]; rfl
def Dig2Rel (B : List UInt8) (w1 : World) (vo vi : Value) (wr : World) : Prop :=
  ∃ (k : Nat) (O : List UInt8), k ≤ B.length ∧ ((k = 0 ∧ vi = .int .i64 (-1)) ∨ ∃ j : Nat, k = j + 1 ∧ vi = .int .i64 (j : Int)) ∧ O = (B.drop k).reverse ∧ wr.ownsRow w1.heap.size 5 1 vo O.length (Lib.byteCells O) ∧ Below w1.heap.size w1 wr

set_option maxHeartbeats 2000000 in
set_option maxRecDepth 100000 in
theorem refDecimal_any (N : Nat) (hN : N ≤ 18446744073709551615) (w : World) :
    Calls Tryz.prog 114 #[.int .u64 N] w fun e w' => e = .returned (.string ⟨(Lib.decDigits N).toArray⟩) ∧ Below w.heap.size w w' := by
  obtain ⟨i0, hi, hz0, hz1, hz2⟩ := info_parts Tryz.infoByte
  go_enter Tryz.func114, Tryz.ntmps114
  go_wp2_with fail
  go_loopw [0, 3] (fun vu vb wr => Dig1Rel N w vu vb wr) (fun vu vb _ => (intOf vu).toNat + sl0 vb)
  case atStart => exact ⟨N, [], hN, rfl, World.ownsRow_nil _ _ _ _, Below.refl _ _, by simp, .inl ⟨.inr rfl, by simp⟩⟩
  case round =>
    obtain ⟨u, B, hu, rfl, hown, hbel, hBl, hst⟩ := hrel
    obtain ⟨ao, cap, rfl⟩ := owns_form hown
    have hwsz := hbel.size
    rcases hst with ⟨hgo, hd⟩ | ⟨hu0, hBne, hd⟩
    · have hstep := dig_step hN hd
      have HST := Lib.hid hstep
      by_cases hu0 : u = 0
      · have hB0 : B = [] := by
          rcases hgo with h | h
          · omega
          · exact h
        subst hu0
        subst hB0
        have h48 : UInt8.ofNat (48 + 0 % 10) = 48 := by decide
        rw [h48] at HST
        have HONE := byteCells_one [48]
        clear hstep hd hgo h48
        simp only [List.length_nil] at hown
        go_wp2_with (at_builtin; refine wpList_append_own _ rfl _ _ 94 rfl w.heap.size 5 i0 (.int .u8 0) 1 1 Tryz.underlying94 hi hz0 hz1 hz2 rfl (by decide) _ _ _ rfl (hown.alloc _) ⟨wr.heap.size, 0, none⟩ 1 1 (Lib.byteCells [48]) rfl rfl (by exact news_at wr _ rfl _) HONE (by unfold maxLen; omega) (by omega) (by simp; omega) ?_)
        intro v' w1 hown' hgrow _
        have hbel1 : Below w.heap.size w w1 := (hbel.alloc hbel.size _).grown hgrow (by have := hbel.size; simp; omega) (fun j hj => (hown.lt j hj).1)
        have hown1 : w1.ownsRow w.heap.size 5 1 v' [(48 : UInt8)].length (Lib.byteCells [48]) := hown'
        clear hown hgrow hbel hown'
        obtain ⟨ao1, cap1, rfl⟩ := owns_form hown1
        go_wp2_with fail
        go_roundw
        case rel => exact ⟨0, [48], by omega, rfl, hown1, hbel1, by simp, by simpa using HST.out.2⟩
        case measure => simp [intOf, sl0]
      · have em : (u : Int).tmod 10 = (u : Int) % 10 := Int.tmod_eq_emod_of_nonneg (by omega)
        have h1 : IntKind.u8.wrap (48 + (u : Int) % 10) = ((UInt8.ofNat (48 + u % 10)).toNat : Int) := by rw [ofNat48 _ (by omega), IntKind.wrap_u8]; omega
        have HONE := byteCells_one [UInt8.ofNat (48 + u % 10)]
        have hg : (0 : Int) < (u : Int) := by omega
        clear hstep hd hgo
        generalize UInt8.ofNat (48 + u % 10) = c at *
        go_wp2_with (at_builtin; refine wpList_append_own _ rfl _ _ 94 rfl w.heap.size 5 i0 (.int .u8 0) 1 1 Tryz.underlying94 hi hz0 hz1 hz2 rfl (by decide) _ _ _ rfl (hown.alloc _) ⟨wr.heap.size, 0, none⟩ 1 1 (Lib.byteCells [c]) rfl rfl (by exact news_at wr _ rfl _) HONE (by unfold maxLen; omega) (by omega) (by simp; omega) ?_)
        intro v' w1 hown' hgrow _
        have hbel1 : Below w.heap.size w w1 := (hbel.alloc hbel.size _).grown hgrow (by have := hbel.size; simp; omega) (fun j hj => (hown.lt j hj).1)
        rw [cells_app] at hown'
        have hown1 : w1.ownsRow w.heap.size 5 1 v' (B ++ [c]).length (Lib.byteCells (B ++ [c])) := by rw [List.length_append]; exact hown'
        clear hown hgrow hbel hown'
        obtain ⟨ao1, cap1, rfl⟩ := owns_form hown1
        go_wp2_with fail
        go_roundw
        case rel => exact ⟨u / 10, B ++ [c], by omega, by go_num, hown1, hbel1, HST.out.1, HST.out.2⟩
        case measure => simp [intOf, sl0]; omega
    · subst hu0
      rename World => wA
      simp only [Int.natCast_zero]
      have hBl0 : B.length ≠ 0 := fun e => hBne (List.eq_nil_of_length_eq_zero e)
      have hb0 : ((B.length : Int) == 0) = false := by rw [beq_eq_false_iff_ne]; omega
      have HD := Lib.hid hd
      obtain ⟨g, rfl⟩ : ∃ g, ao = some ⟨g, 0, none⟩ := by
        rcases hown.2 with ⟨h, h0⟩ | ⟨g, cap', cur, h, _⟩
        · exact absurd h0 hBl0
        · injection h with h _ _; exact ⟨g, h⟩
      have hcells := hown.cells (g := g) rfl
      have hglt : g < wA.heap.size := (hown.lt g rfl).2
      have HC := Lib.hid hcells
      clear hd hcells hown
      go_wp2_with fail
      go_loopw [4, 5] (fun vo vi wr => Dig2Rel B wA vo vi wr) (fun _ vi _ => (intOf vi + 1).toNat)
      case atStart =>
        obtain ⟨j, hj⟩ : ∃ j, B.length = j + 1 := ⟨B.length - 1, by omega⟩
        exact ⟨B.length, [], Nat.le_refl _, .inr ⟨j, hj, by rw [hj]; go_num⟩, by simp, World.ownsRow_nil _ _ _ _, Below.refl _ _⟩
      case round =>
        obtain ⟨k, O, hk, hvi, rfl, hown2, hbel2⟩ := hrel
        have hwsz2 := hbel2.size
        rcases hvi with ⟨rfl, rfl⟩ | ⟨j, rfl, rfl⟩
        ·
          have hf : (B.drop 0).reverse = Lib.decDigits N := HD.out
          have HF := Lib.hid hf
          have hconv := conv_own hown2
          clear hf
          go_wp2_with fail
          go_ret
          exact ⟨ret_str HF.out, below_trans hbel hbel2⟩
        ·
          obtain ⟨c, hc⟩ : ∃ c, B[j]? = some c := ⟨_, List.getElem?_eq_getElem (by omega)⟩
          have hcell : (wr.cell? ⟨g, j, none⟩) = some (.int .u8 (c.toNat : Int)) := by
            have h0 := HC.out j (.int .u8 (c.toNat : Int)) (by simp [Lib.byteCells, hc])
            rw [show (⟨g, 0, none⟩ : Addr).add j = ⟨g, j, none⟩ by simp [Addr.add]; intro e; exact e.symm] at h0
            exact below_cell hbel2 h0
          have hd2 : (B.drop j).reverse = (B.drop (j + 1)).reverse ++ [c] := by rw [drop_cons hc]; simp
          have HD2 := Lib.hid hd2
          have hol : ((B.drop (j + 1)).reverse).length ≤ 20 := by simp; omega
          have HONE := byteCells_one [c]
          clear hd2 hc
          go_wp2_with (at_builtin; refine wpList_append_own _ rfl _ _ 94 rfl wA.heap.size 5 i0 (.int .u8 0) 1 1 Tryz.underlying94 hi hz0 hz1 hz2 rfl (by decide) _ _ _ rfl (hown2.alloc _) ⟨wr.heap.size, 0, none⟩ 1 1 (Lib.byteCells [c]) rfl rfl (by exact news_at wr _ rfl _) HONE (by unfold maxLen; omega) (by omega) (by simp; omega) ?_)
          intro v' w1 hown' hgrow _
          have hbel1 : Below wA.heap.size wA w1 := (hbel2.alloc hbel2.size _).grown hgrow (by have := hbel2.size; simp; omega) (fun j hj => (hown2.lt j hj).1)
          rw [cells_app, ← HD2.out] at hown'
          have hown1 : w1.ownsRow wA.heap.size 5 1 v' (B.drop j).reverse.length (Lib.byteCells (B.drop j).reverse) := by
            have e : (B.drop j).reverse.length = (B.drop (j + 1)).reverse.length + 1 := by rw [HD2.out]; simp
            rw [e]; simpa using hown'
          clear hown2 hgrow hbel2 hown'
          go_wp2_with fail
          go_roundw
          case rel =>
            refine ⟨j, _, by omega, ?_, rfl, hown1, hbel1⟩
            cases j with
            | zero => exact .inl ⟨rfl, by go_num⟩
            | succ i => exact .inr ⟨i, rfl, by go_num⟩
          case measure => simp [intOf]
end Go.Proofs.YtopilalefilkjaaGreatDoor
