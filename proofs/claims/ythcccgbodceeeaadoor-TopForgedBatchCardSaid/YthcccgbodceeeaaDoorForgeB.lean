/-
  PLAIN: the stretches of a batch proof (layer 7) and the walk that eats the proof's hashes in that order (layer 19) say what `saysF` says.
-/
import Derived.Test.YthcccgbodceeeaaDoorForgeP
namespace Go.Proofs.YthcccgbodceeeaaDoor

/-- The stretches outside of [B, E), in order; the walk stops where a stretch lies inside. -/
def outsF (sp : Nat → Nat) (B E : Nat) : Nat → Nat → Nat → List (Nat × Nat)
  | 0, b, e => if e ≤ B ∨ E ≤ b then [(b, e)] else []
  | f + 1, b, e => if e ≤ B ∨ E ≤ b then [(b, e)] else if B ≤ b ∧ e ≤ E then [] else outsF sp B E f b (b + sp (e - b)) ++ outsF sp B E f (b + sp (e - b)) e
/-- The walk that eats a proof. -/
def eatF (sp : Nat → Nat) (F : Nat → List UInt8) (B E : Nat) : Nat → Nat → Nat → List (List UInt8) → List UInt8 × List (List UInt8)
  | 0, b, e, pr => if e ≤ B ∨ E ≤ b then (pr.headD [], pr.tail) else (shaL (leafT (F b)), pr)
  | f + 1, b, e, pr => if e ≤ B ∨ E ≤ b then (pr.headD [], pr.tail) else if e - b < 2 then (shaL (leafT (F b)), pr) else
      (shaL (nodeT (eatF sp F B E f b (b + sp (e - b)) pr).1 (eatF sp F B E f (b + sp (e - b)) e (eatF sp F B E f b (b + sp (e - b)) pr).2).1), (eatF sp F B E f (b + sp (e - b)) e (eatF sp F B E f b (b + sp (e - b)) pr).2).2)
theorem outs_inside (sp : Nat → Nat) (B E : Nat) (f b e : Nat) (h1 : B ≤ b) (h2 : e ≤ E) (h3 : b < e) : outsF sp B E f b e = [] := by
  have ho : ¬ (e ≤ B ∨ E ≤ b) := by omega
  cases f <;> simp only [outsF, if_neg ho]
  rw [if_pos ⟨h1, h2⟩]
theorem eat_says (sp : Nat → Nat) (hsp : ∀ n, 2 ≤ n → 0 < sp n ∧ sp n < n) (P : Nat → Nat → List UInt8) (F : Nat → List UInt8) (B E : Nat) :
    ∀ f b e rest, e - b ≤ f + 1 → b < e → eatF sp F B E f b e ((outsF sp B E f b e).map (fun s => P s.1 s.2) ++ rest) = (saysF sp P F B E f b e, rest)
  | 0, b, e, rest, hf, hb => by
    simp only [eatF, outsF, saysF]
    split <;> simp
  | f + 1, b, e, rest, hf, hb => by
    by_cases ho : e ≤ B ∨ E ≤ b
    · simp only [eatF, outsF, saysF, if_pos ho]
      simp
    · by_cases h2 : e - b < 2
      · have hin : B ≤ b ∧ e ≤ E := by omega
        simp only [eatF, outsF, saysF, if_neg ho, if_pos h2, if_pos hin]
        simp
      · obtain ⟨k1, k2⟩ := hsp (e - b) (by omega)
        have hL := eat_says sp hsp P F B E f b (b + sp (e - b))
        have hR := eat_says sp hsp P F B E f (b + sp (e - b)) e
        have e1 : outsF sp B E (f + 1) b e = outsF sp B E f b (b + sp (e - b)) ++ outsF sp B E f (b + sp (e - b)) e := by
          simp only [outsF, if_neg ho]
          split
          · rename_i hin
            rw [outs_inside sp B E f b _ hin.1 (by omega) (by omega), outs_inside sp B E f _ e (by omega) hin.2 (by omega)]
            rfl
          · rfl
        rw [e1, List.map_append, List.append_assoc]
        simp only [eatF, saysF, if_neg ho, if_neg h2]
        rw [hL _ (by omega) (by omega)]
        simp only
        rw [hR rest (by omega) (by omega)]
end Go.Proofs.YthcccgbodceeeaaDoor
