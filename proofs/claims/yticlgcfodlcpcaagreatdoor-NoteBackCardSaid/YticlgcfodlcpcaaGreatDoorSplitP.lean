/-
  PLAIN: layer 20's law. A tree over leaves, what a claim of a stretch says of it, and the walk that tells two texts: where both have one hash and a leaf differs, the walk tells two unlike texts with one SHA. PLAIN: the stretches of a batch proof (layer 7) and the walk that eats the proof's hashes in that order (layer 19) say what `saysF` says. PLAIN: the stretches of a batch proof are laid in a map, each with its hash: what is looked up there is the proof. PLAIN: the split of layer 7: the greatest power of two below a number.
-/
import Derived.Test.YticlgcfodlcpcaaGreatDoorKeyP
namespace Go.Proofs.YticlgcfodlcpcaaGreatDoor

/-- The texts of a leaf and of a node. -/
def leafT (x : List UInt8) : List UInt8 := 0 :: x
def nodeT (a b : List UInt8) : List UInt8 := 1 :: (a ++ b)
theorem leafT_ne {a b : List UInt8} (h : a ≠ b) : ¬ leafT a = leafT b := fun e => h (List.tail_eq_of_cons_eq e)
/-- The hash of a stretch; `sp` splits, `f` is fuel. -/
def treeF (sp : Nat → Nat) (L : Nat → List UInt8) : Nat → Nat → Nat → List UInt8
  | 0, b, _ => shaL (leafT (L b))
  | f + 1, b, e => if e - b < 2 then shaL (leafT (L b)) else shaL (nodeT (treeF sp L f b (b + sp (e - b))) (treeF sp L f (b + sp (e - b)) e))
/-- What a claim says: outside of [B, E) its own hashes `P`, inside its leaves `F`. -/
def saysF (sp : Nat → Nat) (P : Nat → Nat → List UInt8) (F : Nat → List UInt8) (B E : Nat) : Nat → Nat → Nat → List UInt8
  | 0, b, e => if e ≤ B ∨ E ≤ b then P b e else shaL (leafT (F b))
  | f + 1, b, e => if e ≤ B ∨ E ≤ b then P b e else if e - b < 2 then shaL (leafT (F b)) else shaL (nodeT (saysF sp P F B E f b (b + sp (e - b))) (saysF sp P F B E f (b + sp (e - b)) e))
/-- The walk: the first place where the texts part. -/
def walkF (sp : Nat → Nat) (L : Nat → List UInt8) (P : Nat → Nat → List UInt8) (F : Nat → List UInt8) (B E : Nat) : Nat → Nat → Nat → Option (List UInt8 × List UInt8)
  | 0, b, e => if e ≤ B ∨ E ≤ b then none else if leafT (L b) = leafT (F b) then none else some (leafT (L b), leafT (F b))
  | f + 1, b, e => if e ≤ B ∨ E ≤ b then none else if e - b < 2 then (if leafT (L b) = leafT (F b) then none else some (leafT (L b), leafT (F b))) else
      if nodeT (treeF sp L f b (b + sp (e - b))) (treeF sp L f (b + sp (e - b)) e) = nodeT (saysF sp P F B E f b (b + sp (e - b))) (saysF sp P F B E f (b + sp (e - b)) e) then
        (walkF sp L P F B E f b (b + sp (e - b))).or (walkF sp L P F B E f (b + sp (e - b)) e)
      else some (nodeT (treeF sp L f b (b + sp (e - b))) (treeF sp L f (b + sp (e - b)) e), nodeT (saysF sp P F B E f b (b + sp (e - b))) (saysF sp P F B E f (b + sp (e - b)) e))
theorem treeF_len (hs : ∀ x, (shaL x).length = 32) (sp : Nat → Nat) (L : Nat → List UInt8) (f b e : Nat) : (treeF sp L f b e).length = 32 := by
  cases f <;> simp only [treeF]
  · exact hs _
  · split <;> exact hs _
theorem saysF_len (hs : ∀ x, (shaL x).length = 32) (sp : Nat → Nat) (P : Nat → Nat → List UInt8) (hP : ∀ b e, (P b e).length = 32) (F : Nat → List UInt8) (B E f b e : Nat) : (saysF sp P F B E f b e).length = 32 := by
  cases f <;> simp only [saysF]
  · split
    · exact hP _ _
    · exact hs _
  · split
    · exact hP _ _
    · split <;> exact hs _
/-- What the walk tells, under equal hashes, has one SHA and is unlike. -/
theorem walk_sound (hs : ∀ x, (shaL x).length = 32) (sp : Nat → Nat) (L : Nat → List UInt8) (P : Nat → Nat → List UInt8) (hP : ∀ b e, (P b e).length = 32) (F : Nat → List UInt8) (B E : Nat) :
    ∀ f b e x y, treeF sp L f b e = saysF sp P F B E f b e → walkF sp L P F B E f b e = some (x, y) → x ≠ y ∧ shaL x = shaL y
  | 0, b, e, x, y, h, hw => by
    simp only [walkF] at hw
    split at hw
    · cases hw
    · rename_i ho
      simp only [treeF, saysF, if_neg ho] at h
      split at hw
      · cases hw
      · rename_i hne
        injection hw with hw
        injection hw with h1 h2
        subst h1 h2
        exact ⟨hne, h⟩
  | f + 1, b, e, x, y, h, hw => by
    simp only [walkF] at hw
    split at hw
    · cases hw
    · rename_i ho
      simp only [treeF, saysF, if_neg ho] at h
      split at hw
      · rename_i h2
        simp only [if_pos h2] at h
        split at hw
        · cases hw
        · rename_i hne
          injection hw with hw
          injection hw with h1 h3
          subst h1 h3
          exact ⟨hne, h⟩
      · rename_i h2
        simp only [if_neg h2] at h
        split at hw
        · rename_i heq
          have h3 : treeF sp L f b (b + sp (e - b)) ++ treeF sp L f (b + sp (e - b)) e = saysF sp P F B E f b (b + sp (e - b)) ++ saysF sp P F B E f (b + sp (e - b)) e := List.tail_eq_of_cons_eq heq
          obtain ⟨ha, hb⟩ := List.append_inj h3 (by rw [treeF_len hs, saysF_len hs sp P hP])
          cases hl : walkF sp L P F B E f b (b + sp (e - b)) with
          | some z =>
            rw [hl] at hw
            injection hw with hw
            subst hw
            exact walk_sound hs sp L P hP F B E f _ _ x y ha hl
          | none =>
            rw [hl] at hw
            exact walk_sound hs sp L P hP F B E f _ _ x y hb hw
        · rename_i hne
          injection hw with hw
          injection hw with h1 h3
          subst h1 h3
          exact ⟨hne, h⟩
/-- Where a leaf differs, the walk tells something. -/
theorem walk_finds (hs : ∀ x, (shaL x).length = 32) (sp : Nat → Nat) (hsp : ∀ n, 2 ≤ n → 0 < sp n ∧ sp n < n) (L : Nat → List UInt8) (P : Nat → Nat → List UInt8) (F : Nat → List UInt8) (B E : Nat) (i : Nat) (hi : B ≤ i ∧ i < E) (hd : L i ≠ F i) :
    ∀ f b e, e - b ≤ f + 1 → b ≤ i → i < e → ∃ z, walkF sp L P F B E f b e = some z
  | 0, b, e, hf, h1, h2 => by
    obtain rfl : i = b := by omega
    have ho : ¬ (e ≤ B ∨ E ≤ i) := by omega
    simp only [walkF, if_neg ho]
    rw [if_neg (leafT_ne hd)]
    exact ⟨_, rfl⟩
  | f + 1, b, e, hf, h1, h2 => by
    have ho : ¬ (e ≤ B ∨ E ≤ b) := by omega
    simp only [walkF, if_neg ho]
    by_cases hl : e - b < 2
    · obtain rfl : i = b := by omega
      rw [if_pos hl, if_neg (leafT_ne hd)]
      exact ⟨_, rfl⟩
    · rw [if_neg hl]
      split
      · obtain ⟨k1, k2⟩ := hsp (e - b) (by omega)
        by_cases hk : i < b + sp (e - b)
        · obtain ⟨z, hz⟩ := walk_finds hs sp hsp L P F B E i hi hd f b (b + sp (e - b)) (by omega) h1 hk
          rw [hz]
          exact ⟨z, rfl⟩
        · obtain ⟨z, hz⟩ := walk_finds hs sp hsp L P F B E i hi hd f (b + sp (e - b)) e (by omega) (by omega) h2
          rw [hz]
          cases walkF sp L P F B E f b (b + sp (e - b)) with
          | some y => exact ⟨y, rfl⟩
          | none => exact ⟨z, rfl⟩
      · exact ⟨_, rfl⟩
end Go.Proofs.YticlgcfodlcpcaaGreatDoor

namespace Go.Proofs.YticlgcfodlcpcaaGreatDoor

/-- The stretches outside of [B, E), in order; the walk stops where a stretch lies inside. -/
def outsF (sp : Nat → Nat) (B E : Nat) : Nat → Nat → Nat → List (Nat × Nat)
  | 0, b, e => if e ≤ B ∨ E ≤ b then [(b, e)] else []
  | f + 1, b, e => if e ≤ B ∨ E ≤ b then [(b, e)] else if B ≤ b ∧ e ≤ E then [] else outsF sp B E f b (b + sp (e - b)) ++ outsF sp B E f (b + sp (e - b)) e
/-- The walk that eats a proof. -/
def eatF (sp : Nat → Nat) (F : Nat → List UInt8) (B E : Nat) : Nat → Nat → Nat → List (List UInt8) → List UInt8 × List (List UInt8)
  | 0, b, e, pr => if e ≤ B ∨ E ≤ b then (pr.headD [], pr.tail) else (shaL (leafT (F b)), pr)
  | f + 1, b, e, pr => if e ≤ B ∨ E ≤ b then (pr.headD [], pr.tail) else if e - b < 2 then (shaL (leafT (F b)), pr) else
      (shaL (nodeT (eatF sp F B E f b (b + sp (e - b)) pr).1 (eatF sp F B E f (b + sp (e - b)) e (eatF sp F B E f b (b + sp (e - b)) pr).2).1), (eatF sp F B E f (b + sp (e - b)) e (eatF sp F B E f b (b + sp (e - b)) pr).2).2)
theorem outs_inside (sp : Nat → Nat) (B E : Nat) (f b e : Nat) (h1 : B ≤ b) (h2 : e ≤ E) (h3 : b < e) : outsF sp B E f b e = [] := by
  have ho : ¬ (e ≤ B ∨ E ≤ b) := by omega
  cases f <;> simp only [outsF, if_neg ho]
  rw [if_pos ⟨h1, h2⟩]
theorem eat_says (sp : Nat → Nat) (hsp : ∀ n, 2 ≤ n → 0 < sp n ∧ sp n < n) (P : Nat → Nat → List UInt8) (F : Nat → List UInt8) (B E : Nat) :
    ∀ f b e rest, e - b ≤ f + 1 → b < e → eatF sp F B E f b e ((outsF sp B E f b e).map (fun s => P s.1 s.2) ++ rest) = (saysF sp P F B E f b e, rest)
  | 0, b, e, rest, hf, hb => by
    simp only [eatF, outsF, saysF]
    split <;> simp
  | f + 1, b, e, rest, hf, hb => by
    by_cases ho : e ≤ B ∨ E ≤ b
    · simp only [eatF, outsF, saysF, if_pos ho]
      simp
    · by_cases h2 : e - b < 2
      · have hin : B ≤ b ∧ e ≤ E := by omega
        simp only [eatF, outsF, saysF, if_neg ho, if_pos h2, if_pos hin]
        simp
      · obtain ⟨k1, k2⟩ := hsp (e - b) (by omega)
        have hL := eat_says sp hsp P F B E f b (b + sp (e - b))
        have hR := eat_says sp hsp P F B E f (b + sp (e - b)) e
        have e1 : outsF sp B E (f + 1) b e = outsF sp B E f b (b + sp (e - b)) ++ outsF sp B E f (b + sp (e - b)) e := by
          simp only [outsF, if_neg ho]
          split
          · rename_i hin
            rw [outs_inside sp B E f b _ hin.1 (by omega) (by omega), outs_inside sp B E f _ e (by omega) hin.2 (by omega)]
            rfl
          · rfl
        rw [e1, List.map_append, List.append_assoc]
        simp only [eatF, saysF, if_neg ho, if_neg h2]
        rw [hL _ (by omega) (by omega)]
        simp only
        rw [hR rest (by omega) (by omega)]
end Go.Proofs.YticlgcfodlcpcaaGreatDoor

namespace Go.Proofs.YticlgcfodlcpcaaGreatDoor

theorem outs_in (sp : Nat → Nat) (hsp : ∀ n, 2 ≤ n → 0 < sp n ∧ sp n < n) (B E : Nat) : ∀ f b e, e - b ≤ f + 1 → b < e → ∀ s ∈ outsF sp B E f b e, b ≤ s.1 ∧ s.1 < e
  | 0, b, e, hf, hb, s, hs => by
    simp only [outsF] at hs
    split at hs
    · simp at hs
      subst hs
      exact ⟨Nat.le_refl _, hb⟩
    · simp at hs
  | f + 1, b, e, hf, hb, s, hs => by
    simp only [outsF] at hs
    split at hs
    · simp at hs
      subst hs
      exact ⟨Nat.le_refl _, hb⟩
    · rename_i ho
      split at hs
      · simp at hs
      · rename_i hin
        obtain ⟨k1, k2⟩ := hsp (e - b) (by omega)
        rcases List.mem_append.1 hs with h | h
        · have := outs_in sp hsp B E f b (b + sp (e - b)) (by omega) (by omega) s h
          omega
        · have := outs_in sp hsp B E f (b + sp (e - b)) e (by omega) (by omega) s h
          omega
theorem outs_sorted (sp : Nat → Nat) (hsp : ∀ n, 2 ≤ n → 0 < sp n ∧ sp n < n) (B E : Nat) : ∀ f b e, e - b ≤ f + 1 → b < e → (outsF sp B E f b e).Pairwise (fun s t => s.1 < t.1)
  | 0, b, e, hf, hb => by
    simp only [outsF]
    split <;> simp
  | f + 1, b, e, hf, hb => by
    simp only [outsF]
    split
    · simp
    · rename_i ho
      split
      · simp
      · rename_i hin
        obtain ⟨k1, k2⟩ := hsp (e - b) (by omega)
        refine List.pairwise_append.2 ⟨outs_sorted sp hsp B E f b _ (by omega) (by omega), outs_sorted sp hsp B E f _ e (by omega) (by omega), fun s hs t ht => ?_⟩
        have h1 := outs_in sp hsp B E f b (b + sp (e - b)) (by omega) (by omega) s hs
        have h2 := outs_in sp hsp B E f (b + sp (e - b)) e (by omega) (by omega) t ht
        omega
/-- Looked up, a list of stretches tells the hashes that were laid beside it. -/
theorem lookup_allD (z : List UInt8) : ∀ (l : List (Nat × Nat)) (pr : List (List UInt8)), l.Pairwise (fun s t => s.1 < t.1) → l.length = pr.length → l.map (fun s => ((l.zip pr).lookup s).getD z) = pr
  | [], [], _, _ => rfl
  | s :: l, p :: pr, hp, hl => by
    obtain ⟨h1, h2⟩ := List.pairwise_cons.1 hp
    have ih := lookup_allD z l pr h2 (by simpa using hl)
    have e : ∀ t ∈ l, (((s :: l).zip (p :: pr)).lookup t).getD z = ((l.zip pr).lookup t).getD z := fun t ht => by
      have hne : (t == s) = false := by
        rw [beq_eq_false_iff_ne]
        intro h
        have := h1 t ht
        rw [h] at this
        omega
      simp [List.lookup, hne]
    rw [List.map_cons, List.map_congr_left e, ih]
    simp
  | [], _ :: _, _, hl => by simp at hl
  | _ :: _, [], _, hl => by simp at hl
end Go.Proofs.YticlgcfodlcpcaaGreatDoor

namespace Go.Proofs.YticlgcfodlcpcaaGreatDoor

def spL (n : Nat) : Nat := 2 ^ (n - 1).log2
theorem spL_mid (n : Nat) (h : 2 ≤ n) : 0 < spL n ∧ spL n < n := by
  have h1 : 2 ^ (n - 1).log2 ≤ n - 1 := Nat.log2_self_le (by omega)
  refine ⟨Nat.two_pow_pos _, ?_⟩
  unfold spL
  omega
/-- The law of layer 20 over a batch proof: where the claim's hash is the log's and a leaf differs, the walk tells two unlike texts with one SHA. -/
theorem forge_law (hs : ∀ x, (shaL x).length = 32) (L F : Nat → List UInt8) (B E size : Nat) (pr : List (List UInt8)) (hB : B < E) (hE : E ≤ size) (hpr : ∀ p ∈ pr, p.length = 32) (hl : (outsF spL B E size 0 size).length = pr.length)
    (hv : (eatF spL F B E size 0 size pr).1 = treeF spL L size 0 size) (i : Nat) (hi : B ≤ i ∧ i < E) (hd : L i ≠ F i) :
    ∃ x y, walkF spL L (fun b e => (((outsF spL B E size 0 size).zip pr).lookup (b, e)).getD (List.replicate 32 0)) F B E size 0 size = some (x, y) ∧ x ≠ y ∧ shaL x = shaL y := by
  have hP : ∀ b e, ((((outsF spL B E size 0 size).zip pr).lookup (b, e)).getD (List.replicate 32 0)).length = 32 := fun b e => by
    cases h : ((outsF spL B E size 0 size).zip pr).lookup (b, e) with
    | none => rfl
    | some p =>
      obtain ⟨l1, l2, h1, _⟩ := List.lookup_eq_some_iff.1 h
      exact hpr _ (List.of_mem_zip (by rw [h1]; exact List.mem_append_right _ (List.mem_cons_self ..) : ((b, e), p) ∈ (outsF spL B E size 0 size).zip pr)).2
  have hmap := lookup_allD (List.replicate 32 0) (outsF spL B E size 0 size) pr (outs_sorted spL spL_mid B E size 0 size (by omega) (by omega)) hl
  have he := eat_says spL spL_mid (fun b e => (((outsF spL B E size 0 size).zip pr).lookup (b, e)).getD (List.replicate 32 0)) F B E size 0 size [] (by omega) (by omega)
  rw [hmap, List.append_nil] at he
  rw [he] at hv
  obtain ⟨⟨x, y⟩, hz⟩ := walk_finds hs spL spL_mid L _ F B E i hi hd size 0 size (by omega) (by omega) (by omega)
  exact ⟨x, y, hz, walk_sound hs spL L _ hP F B E size 0 size x y hv.symm hz⟩
end Go.Proofs.YticlgcfodlcpcaaGreatDoor
