/-
  PLAIN: the stretches of a batch proof are laid in a map, each with its hash: what is looked up there is the proof.
-/
import Derived.Test.YthcccgbodceeeaaDoorForgeB
namespace Go.Proofs.YthcccgbodceeeaaDoor

theorem outs_in (sp : Nat → Nat) (hsp : ∀ n, 2 ≤ n → 0 < sp n ∧ sp n < n) (B E : Nat) : ∀ f b e, e - b ≤ f + 1 → b < e → ∀ s ∈ outsF sp B E f b e, b ≤ s.1 ∧ s.1 < e
  | 0, b, e, hf, hb, s, hs => by
    simp only [outsF] at hs
    split at hs
    · simp at hs
      subst hs
      exact ⟨Nat.le_refl _, hb⟩
    · simp at hs
  | f + 1, b, e, hf, hb, s, hs => by
    simp only [outsF] at hs
    split at hs
    · simp at hs
      subst hs
      exact ⟨Nat.le_refl _, hb⟩
    · rename_i ho
      split at hs
      · simp at hs
      · rename_i hin
        obtain ⟨k1, k2⟩ := hsp (e - b) (by omega)
        rcases List.mem_append.1 hs with h | h
        · have := outs_in sp hsp B E f b (b + sp (e - b)) (by omega) (by omega) s h
          omega
        · have := outs_in sp hsp B E f (b + sp (e - b)) e (by omega) (by omega) s h
          omega
theorem outs_sorted (sp : Nat → Nat) (hsp : ∀ n, 2 ≤ n → 0 < sp n ∧ sp n < n) (B E : Nat) : ∀ f b e, e - b ≤ f + 1 → b < e → (outsF sp B E f b e).Pairwise (fun s t => s.1 < t.1)
  | 0, b, e, hf, hb => by
    simp only [outsF]
    split <;> simp
  | f + 1, b, e, hf, hb => by
    simp only [outsF]
    split
    · simp
    · rename_i ho
      split
      · simp
      · rename_i hin
        obtain ⟨k1, k2⟩ := hsp (e - b) (by omega)
        refine List.pairwise_append.2 ⟨outs_sorted sp hsp B E f b _ (by omega) (by omega), outs_sorted sp hsp B E f _ e (by omega) (by omega), fun s hs t ht => ?_⟩
        have h1 := outs_in sp hsp B E f b (b + sp (e - b)) (by omega) (by omega) s hs
        have h2 := outs_in sp hsp B E f (b + sp (e - b)) e (by omega) (by omega) t ht
        omega
/-- Looked up, a list of stretches tells the hashes that were laid beside it. -/
theorem lookup_allD (z : List UInt8) : ∀ (l : List (Nat × Nat)) (pr : List (List UInt8)), l.Pairwise (fun s t => s.1 < t.1) → l.length = pr.length → l.map (fun s => ((l.zip pr).lookup s).getD z) = pr
  | [], [], _, _ => rfl
  | s :: l, p :: pr, hp, hl => by
    obtain ⟨h1, h2⟩ := List.pairwise_cons.1 hp
    have ih := lookup_allD z l pr h2 (by simpa using hl)
    have e : ∀ t ∈ l, (((s :: l).zip (p :: pr)).lookup t).getD z = ((l.zip pr).lookup t).getD z := fun t ht => by
      have hne : (t == s) = false := by
        rw [beq_eq_false_iff_ne]
        intro h
        have := h1 t ht
        rw [h] at this
        omega
      simp [List.lookup, hne]
    rw [List.map_cons, List.map_congr_left e, ih]
    simp
  | [], _ :: _, _, hl => by simp at hl
  | _ :: _, [], _, hl => by simp at hl
end Go.Proofs.YthcccgbodceeeaaDoor
