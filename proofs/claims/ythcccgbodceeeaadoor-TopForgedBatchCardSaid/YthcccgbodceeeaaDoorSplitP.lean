/-
  PLAIN: the split of layer 7: the greatest power of two below a number.
-/
import Derived.Test.YthcccgbodceeeaaDoorForgeM
namespace Go.Proofs.YthcccgbodceeeaaDoor

def spL (n : Nat) : Nat := 2 ^ (n - 1).log2
theorem spL_mid (n : Nat) (h : 2 ≤ n) : 0 < spL n ∧ spL n < n := by
  have h1 : 2 ^ (n - 1).log2 ≤ n - 1 := Nat.log2_self_le (by omega)
  refine ⟨Nat.two_pow_pos _, ?_⟩
  unfold spL
  omega
/-- The law of layer 20 over a batch proof: where the claim's hash is the log's and a leaf differs, the walk tells two unlike texts with one SHA. -/
theorem forge_law (hs : ∀ x, (shaL x).length = 32) (L F : Nat → List UInt8) (B E size : Nat) (pr : List (List UInt8)) (hB : B < E) (hE : E ≤ size) (hpr : ∀ p ∈ pr, p.length = 32) (hl : (outsF spL B E size 0 size).length = pr.length)
    (hv : (eatF spL F B E size 0 size pr).1 = treeF spL L size 0 size) (i : Nat) (hi : B ≤ i ∧ i < E) (hd : L i ≠ F i) :
    ∃ x y, walkF spL L (fun b e => (((outsF spL B E size 0 size).zip pr).lookup (b, e)).getD (List.replicate 32 0)) F B E size 0 size = some (x, y) ∧ x ≠ y ∧ shaL x = shaL y := by
  have hP : ∀ b e, ((((outsF spL B E size 0 size).zip pr).lookup (b, e)).getD (List.replicate 32 0)).length = 32 := fun b e => by
    cases h : ((outsF spL B E size 0 size).zip pr).lookup (b, e) with
    | none => rfl
    | some p =>
      obtain ⟨l1, l2, h1, _⟩ := List.lookup_eq_some_iff.1 h
      exact hpr _ (List.of_mem_zip (by rw [h1]; exact List.mem_append_right _ (List.mem_cons_self ..) : ((b, e), p) ∈ (outsF spL B E size 0 size).zip pr)).2
  have hmap := lookup_allD (List.replicate 32 0) (outsF spL B E size 0 size) pr (outs_sorted spL spL_mid B E size 0 size (by omega) (by omega)) hl
  have he := eat_says spL spL_mid (fun b e => (((outsF spL B E size 0 size).zip pr).lookup (b, e)).getD (List.replicate 32 0)) F B E size 0 size [] (by omega) (by omega)
  rw [hmap, List.append_nil] at he
  rw [he] at hv
  obtain ⟨⟨x, y⟩, hz⟩ := walk_finds hs spL spL_mid L _ F B E i hi hd size 0 size (by omega) (by omega) (by omega)
  exact ⟨x, y, hz, walk_sound hs spL L _ hP F B E size 0 size x y hv.symm hz⟩
end Go.Proofs.YthcccgbodceeeaaDoor
