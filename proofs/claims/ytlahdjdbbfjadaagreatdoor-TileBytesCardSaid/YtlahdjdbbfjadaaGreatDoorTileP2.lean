/-
  Tiles' names, plain: what tile.Parse reads out of a name; it is what the reference reads.
-/
import Derived.Test.YtlahdjdbbfjadaaGreatDoorTileP
import Derived.Lib.CutLaws
import Derived.Lib.TrimByte
namespace Go.Proofs.YtlahdjdbbfjadaaGreatDoor
open Go.RowKit

theorem index_none {c : UInt8} {t : List UInt8} : ∀ {l : List UInt8}, (∀ x ∈ l, x ≠ c) → Lib.index l (c :: t) = -1
  | [], _ => rfl
  | b :: l, h => by
    have hb : b ≠ c := h b (List.mem_cons_self ..)
    have e : (c :: t).isPrefixOf (b :: l) = false := by
      simp only [List.isPrefixOf, Bool.and_eq_false_iff, beq_eq_false_iff_ne]
      exact .inl fun e => hb e.symm
    have ih := index_none (t := t) fun x hx => h x (List.mem_cons_of_mem _ hx)
    unfold Lib.index
    rw [e, ih]
    rfl
theorem index_some {c : UInt8} {t : List UInt8} : ∀ {a b : List UInt8}, (∀ x ∈ a, x ≠ c) → Lib.index (a ++ ((c :: t) ++ b)) (c :: t) = a.length
  | [], b, _ => by
    have e : (c :: t).isPrefixOf ((c :: t) ++ b) = true := List.isPrefixOf_iff_prefix.2 (List.prefix_append _ _)
    rw [List.nil_append, List.cons_append]
    unfold Lib.index
    rw [List.cons_append] at e
    rw [e]
    rfl
  | x :: a, b, h => by
    have hb : x ≠ c := h x (List.mem_cons_self ..)
    have e : (c :: t).isPrefixOf (x :: (a ++ ((c :: t) ++ b))) = false := by
      simp only [List.isPrefixOf, Bool.and_eq_false_iff, beq_eq_false_iff_ne]
      exact .inl fun e => hb e.symm
    have ih := index_some (t := t) (a := a) (b := b) fun y hy => h y (List.mem_cons_of_mem _ hy)
    rw [List.cons_append]
    unfold Lib.index
    rw [e, ih, if_neg (by decide), if_neg (by rw [beq_iff_eq]; omega)]
    simp
theorem cut_some {c : UInt8} {t a b : List UInt8} (h : ∀ x ∈ a, x ≠ c) : Lib.cut (a ++ ((c :: t) ++ b)) (c :: t) = (a, b, true) := by
  unfold Lib.cut
  rw [index_some h, if_pos (by omega)]
  have e1 : (a ++ ((c :: t) ++ b)).take a.length = a := by simp
  have e2 : (a ++ ((c :: t) ++ b)).drop (a.length + (c :: t).length) = b := by
    rw [← List.drop_drop]
    simp
  rw [Int.toNat_natCast, e1, e2]
theorem cut_none {c : UInt8} {t l : List UInt8} (h : ∀ x ∈ l, x ≠ c) : Lib.cut l (c :: t) = (l, [], false) := by
  unfold Lib.cut
  rw [index_none h]
  rfl

def tileS : List UInt8 := [116, 105, 108, 101, 47]
/-- What stands behind 'tile/', or the whole, where it does not begin so. -/
def pRest (s : List UInt8) : List UInt8 := if tileS.isPrefixOf s then s.drop 5 else s
def pCut1 (s : List UInt8) : List UInt8 × List UInt8 × Bool := Lib.cut (pRest s) [47]
def pCut2 (s : List UInt8) : List UInt8 × List UInt8 × Bool := Lib.cut (pCut1 s).2.1 [46, 112, 47]
def pIdx (l : List UInt8) : List UInt8 := if Lib.trimLeftB (l.filter keepX) 48 = [] then [48] else Lib.trimLeftB (l.filter keepX) 48
def pL (s : List UInt8) : Nat := (fromDec (pCut1 s).1).1
def pI (s : List UInt8) : Nat := (fromDec (pIdx (pCut2 s).1)).1
def pW (s : List UInt8) : Nat := if (pCut2 s).2.2 = true then (fromDec (pCut2 s).2.1).1 else 256
/-- Nothing went wrong on the way. -/
def pOk (s : List UInt8) : Prop := tileS.isPrefixOf s = true ∧ (pCut1 s).2.2 = true ∧ (fromDec (pCut1 s).1).2.1 = 0 ∧ (fromDec (pIdx (pCut2 s).1)).2.1 = 0 ∧ ((pCut2 s).2.2 = true → (fromDec (pCut2 s).2.1).2.1 = 0) ∧ pL s ≤ 7 ∧ pW s ≤ 256
instance (s : List UInt8) : Decidable (pOk s) := inferInstanceAs (Decidable (_ ∧ _))
theorem read_prog (L I : Nat) (W : Int) (h : MayT L I W) : pOk (nameT L I W.toNat) ∧ pL (nameT L I W.toNat) = L ∧ pI (nameT L I W.toNat) = I ∧ ((pW (nameT L I W.toNat) : Nat) : Int) = W := by
  obtain ⟨hL, hW1, hW2, hI, _⟩ := h
  have hdig := dec_digs I
  have hpre : tileS.isPrefixOf (nameT L I W.toNat) = true := List.isPrefixOf_iff_prefix.2 ⟨_, rfl⟩
  have hrest : pRest (nameT L I W.toNat) = Lib.decDigits L ++ (([47] : List UInt8) ++ (threesL (Lib.decDigits I) ++ partL W.toNat)) := by
    unfold pRest
    rw [if_pos hpre]
    rfl
  have hc1 : pCut1 (nameT L I W.toNat) = (Lib.decDigits L, threesL (Lib.decDigits I) ++ partL W.toNat, true) := by
    unfold pCut1
    rw [hrest]
    exact cut_some fun x hx => dig_ne (dec_digs L x hx) (by decide)
  have hno : ∀ x ∈ threesL (Lib.decDigits I), x ≠ 46 := threes_no hdig (by decide) (by decide) (by decide)
  have hc2 : pCut2 (nameT L I W.toNat) = (threesL (Lib.decDigits I), if W.toNat < 256 then Lib.decDigits W.toNat else [], decide (W.toNat < 256)) := by
    unfold pCut2
    rw [hc1]
    unfold partL
    split
    · rename_i hw
      rw [show decide (W.toNat < 256) = true by simpa using hw]
      exact cut_some hno
    · rename_i hw
      rw [show decide (W.toNat < 256) = false by simpa using hw, List.append_nil]
      exact cut_none hno
  have hidx : pIdx (threesL (Lib.decDigits I)) = Lib.decDigits I := by
    unfold pIdx Lib.trimLeftB
    rw [filter_threes _ hdig, trim_pad]
    by_cases h0 : I = 0
    · subst h0
      rw [if_pos rfl, if_pos rfl, Lib.decDigits_one (by omega)]
      rfl
    · rw [if_neg h0, if_neg (decDigits_ne I)]
  have hfL := fromDec_digits L (by omega)
  have hfI := fromDec_digits I (by omega)
  have hfW := fromDec_digits W.toNat (by omega)
  have e1 : pL (nameT L I W.toNat) = L := by
    unfold pL
    rw [hc1, hfL]
  have e2 : pI (nameT L I W.toNat) = I := by
    unfold pI
    rw [hc2]
    show (fromDec (pIdx (threesL (Lib.decDigits I)))).1 = I
    rw [hidx, hfI]
  have e3 : ((pW (nameT L I W.toNat) : Nat) : Int) = W := by
    unfold pW
    rw [hc2]
    simp only [decide_eq_true_eq]
    split
    · rw [hfW]; simp; omega
    · omega
  refine ⟨⟨hpre, by rw [hc1], ?_, ?_, ?_, by omega, by omega⟩, e1, e2, e3⟩
  · rw [hc1, hfL]
  · rw [hc2]
    show (fromDec (pIdx (threesL (Lib.decDigits I)))).2.1 = 0
    rw [hidx, hfI]
  · rw [hc2]
    intro hw
    have hw : W.toNat < 256 := by simpa using hw
    simp only [if_pos hw, hfW]

/-- What both answer. -/
def parseT (s : List UInt8) : Option (Nat × Nat × Nat) := if pOk s ∧ MayT (pL s) (pI s) (pW s) ∧ nameT (pL s) (pI s) (pW s) = s then some (pL s, pI s, pW s) else none
theorem parse_ref (s : List UInt8) : parseT s = if 8 ≤ s.length ∧ MayT (refL s) (refI s) (refW s) ∧ nameT (refL s) (refI s) (refW s) = s then some (refL s, refI s, refW s) else none := by
  unfold parseT
  by_cases h : pOk s ∧ MayT (pL s) (pI s) (pW s) ∧ nameT (pL s) (pI s) (pW s) = s
  · rw [if_pos h]
    obtain ⟨_, hm, hn⟩ := h
    obtain ⟨r1, r2, r3, r4⟩ := read_name _ _ _ hm
    rw [Int.toNat_natCast, hn] at r1 r2 r3 r4
    have r3 : refW s = pW s := by omega
    rw [r1, r2, r3, if_pos ⟨r4, hm, hn⟩]
  · rw [if_neg h]
    split
    · rename_i h2
      obtain ⟨_, hm, hn⟩ := h2
      obtain ⟨r0, r1, r2, r3⟩ := read_prog _ _ _ hm
      rw [Int.toNat_natCast, hn] at r0 r1 r2 r3
      have r3 : pW s = refW s := by omega
      exact absurd ⟨r0, by rw [r1, r2, r3]; exact hm, by rw [r1, r2, r3]; exact hn⟩ h
    · rfl
end Go.Proofs.YtlahdjdbbfjadaaGreatDoor
