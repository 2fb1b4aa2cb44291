/-
  PLAIN: layer 20's law. A tree over leaves, what a claim of a stretch says of it, and the walk that tells two texts: where both have one hash and a leaf differs, the walk tells two unlike texts with one SHA.
-/
import Derived.Test.YthcccgbodceeeaaDoorShaP
namespace Go.Proofs.YthcccgbodceeeaaDoor

/-- The texts of a leaf and of a node. -/
def leafT (x : List UInt8) : List UInt8 := 0 :: x
def nodeT (a b : List UInt8) : List UInt8 := 1 :: (a ++ b)
theorem leafT_ne {a b : List UInt8} (h : a ≠ b) : ¬ leafT a = leafT b := fun e => h (List.tail_eq_of_cons_eq e)
/-- The hash of a stretch; `sp` splits, `f` is fuel. -/
def treeF (sp : Nat → Nat) (L : Nat → List UInt8) : Nat → Nat → Nat → List UInt8
  | 0, b, _ => shaL (leafT (L b))
  | f + 1, b, e => if e - b < 2 then shaL (leafT (L b)) else shaL (nodeT (treeF sp L f b (b + sp (e - b))) (treeF sp L f (b + sp (e - b)) e))
/-- What a claim says: outside of [B, E) its own hashes `P`, inside its leaves `F`. -/
def saysF (sp : Nat → Nat) (P : Nat → Nat → List UInt8) (F : Nat → List UInt8) (B E : Nat) : Nat → Nat → Nat → List UInt8
  | 0, b, e => if e ≤ B ∨ E ≤ b then P b e else shaL (leafT (F b))
  | f + 1, b, e => if e ≤ B ∨ E ≤ b then P b e else if e - b < 2 then shaL (leafT (F b)) else shaL (nodeT (saysF sp P F B E f b (b + sp (e - b))) (saysF sp P F B E f (b + sp (e - b)) e))
/-- The walk: the first place where the texts part. -/
def walkF (sp : Nat → Nat) (L : Nat → List UInt8) (P : Nat → Nat → List UInt8) (F : Nat → List UInt8) (B E : Nat) : Nat → Nat → Nat → Option (List UInt8 × List UInt8)
  | 0, b, e => if e ≤ B ∨ E ≤ b then none else if leafT (L b) = leafT (F b) then none else some (leafT (L b), leafT (F b))
  | f + 1, b, e => if e ≤ B ∨ E ≤ b then none else if e - b < 2 then (if leafT (L b) = leafT (F b) then none else some (leafT (L b), leafT (F b))) else
      if nodeT (treeF sp L f b (b + sp (e - b))) (treeF sp L f (b + sp (e - b)) e) = nodeT (saysF sp P F B E f b (b + sp (e - b))) (saysF sp P F B E f (b + sp (e - b)) e) then
        (walkF sp L P F B E f b (b + sp (e - b))).or (walkF sp L P F B E f (b + sp (e - b)) e)
      else some (nodeT (treeF sp L f b (b + sp (e - b))) (treeF sp L f (b + sp (e - b)) e), nodeT (saysF sp P F B E f b (b + sp (e - b))) (saysF sp P F B E f (b + sp (e - b)) e))
theorem treeF_len (hs : ∀ x, (shaL x).length = 32) (sp : Nat → Nat) (L : Nat → List UInt8) (f b e : Nat) : (treeF sp L f b e).length = 32 := by
  cases f <;> simp only [treeF]
  · exact hs _
  · split <;> exact hs _
theorem saysF_len (hs : ∀ x, (shaL x).length = 32) (sp : Nat → Nat) (P : Nat → Nat → List UInt8) (hP : ∀ b e, (P b e).length = 32) (F : Nat → List UInt8) (B E f b e : Nat) : (saysF sp P F B E f b e).length = 32 := by
  cases f <;> simp only [saysF]
  · split
    · exact hP _ _
    · exact hs _
  · split
    · exact hP _ _
    · split <;> exact hs _
/-- What the walk tells, under equal hashes, has one SHA and is unlike. -/
theorem walk_sound (hs : ∀ x, (shaL x).length = 32) (sp : Nat → Nat) (L : Nat → List UInt8) (P : Nat → Nat → List UInt8) (hP : ∀ b e, (P b e).length = 32) (F : Nat → List UInt8) (B E : Nat) :
    ∀ f b e x y, treeF sp L f b e = saysF sp P F B E f b e → walkF sp L P F B E f b e = some (x, y) → x ≠ y ∧ shaL x = shaL y
  | 0, b, e, x, y, h, hw => by
    simp only [walkF] at hw
    split at hw
    · cases hw
    · rename_i ho
      simp only [treeF, saysF, if_neg ho] at h
      split at hw
      · cases hw
      · rename_i hne
        injection hw with hw
        injection hw with h1 h2
        subst h1 h2
        exact ⟨hne, h⟩
  | f + 1, b, e, x, y, h, hw => by
    simp only [walkF] at hw
    split at hw
    · cases hw
    · rename_i ho
      simp only [treeF, saysF, if_neg ho] at h
      split at hw
      · rename_i h2
        simp only [if_pos h2] at h
        split at hw
        · cases hw
        · rename_i hne
          injection hw with hw
          injection hw with h1 h3
          subst h1 h3
          exact ⟨hne, h⟩
      · rename_i h2
        simp only [if_neg h2] at h
        split at hw
        · rename_i heq
          have h3 : treeF sp L f b (b + sp (e - b)) ++ treeF sp L f (b + sp (e - b)) e = saysF sp P F B E f b (b + sp (e - b)) ++ saysF sp P F B E f (b + sp (e - b)) e := List.tail_eq_of_cons_eq heq
          obtain ⟨ha, hb⟩ := List.append_inj h3 (by rw [treeF_len hs, saysF_len hs sp P hP])
          cases hl : walkF sp L P F B E f b (b + sp (e - b)) with
          | some z =>
            rw [hl] at hw
            injection hw with hw
            subst hw
            exact walk_sound hs sp L P hP F B E f _ _ x y ha hl
          | none =>
            rw [hl] at hw
            exact walk_sound hs sp L P hP F B E f _ _ x y hb hw
        · rename_i hne
          injection hw with hw
          injection hw with h1 h3
          subst h1 h3
          exact ⟨hne, h⟩
/-- Where a leaf differs, the walk tells something. -/
theorem walk_finds (hs : ∀ x, (shaL x).length = 32) (sp : Nat → Nat) (hsp : ∀ n, 2 ≤ n → 0 < sp n ∧ sp n < n) (L : Nat → List UInt8) (P : Nat → Nat → List UInt8) (F : Nat → List UInt8) (B E : Nat) (i : Nat) (hi : B ≤ i ∧ i < E) (hd : L i ≠ F i) :
    ∀ f b e, e - b ≤ f + 1 → b ≤ i → i < e → ∃ z, walkF sp L P F B E f b e = some z
  | 0, b, e, hf, h1, h2 => by
    obtain rfl : i = b := by omega
    have ho : ¬ (e ≤ B ∨ E ≤ i) := by omega
    simp only [walkF, if_neg ho]
    rw [if_neg (leafT_ne hd)]
    exact ⟨_, rfl⟩
  | f + 1, b, e, hf, h1, h2 => by
    have ho : ¬ (e ≤ B ∨ E ≤ b) := by omega
    simp only [walkF, if_neg ho]
    by_cases hl : e - b < 2
    · obtain rfl : i = b := by omega
      rw [if_pos hl, if_neg (leafT_ne hd)]
      exact ⟨_, rfl⟩
    · rw [if_neg hl]
      split
      · obtain ⟨k1, k2⟩ := hsp (e - b) (by omega)
        by_cases hk : i < b + sp (e - b)
        · obtain ⟨z, hz⟩ := walk_finds hs sp hsp L P F B E i hi hd f b (b + sp (e - b)) (by omega) h1 hk
          rw [hz]
          exact ⟨z, rfl⟩
        · obtain ⟨z, hz⟩ := walk_finds hs sp hsp L P F B E i hi hd f (b + sp (e - b)) e (by omega) (by omega) h2
          rw [hz]
          cases walkF sp L P F B E f b (b + sp (e - b)) with
          | some y => exact ⟨y, rfl⟩
          | none => exact ⟨z, rfl⟩
      · exact ⟨_, rfl⟩
end Go.Proofs.YthcccgbodceeeaaDoor
