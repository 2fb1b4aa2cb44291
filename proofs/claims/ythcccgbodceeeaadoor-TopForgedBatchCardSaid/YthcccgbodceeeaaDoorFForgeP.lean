/-
  PLAIN: what forge.Batch tells, by the law of layer 20.
-/
import Derived.Test.YthcccgbodceeeaaDoorFPart
import Derived.Test.YthcccgbodceeeaaDoorSplitP
namespace Go.Proofs.YthcccgbodceeeaaDoor
open Go.RowKit

/-- The claimed leaves, by their numbers. -/
def Fof (B : Nat) (fs : List ByteArray) (j : Nat) : List UInt8 := bs (fs.getD (j - B) ⟨#[]⟩)
/-- Their hashes, the first so many. -/
def hsl (fs : List ByteArray) (i : Nat) : List (List UInt8) := (fs.take i).map fun s => shaL (leafT (bs s))
theorem hsl_next {fs : List ByteArray} {i : Nat} {s : ByteArray} (h : fs[i]? = some s) : hsl fs (i + 1) = hsl fs i ++ [shaL (leafT (bs s))] := by
  unfold hsl
  rw [List.take_add_one, h]
  simp
theorem hsl_32 (fs : List ByteArray) (i : Nat) : ∀ h ∈ hsl fs i, h.length = 32 := fun h hh => by
  obtain ⟨s, _, rfl⟩ := List.mem_map.1 hh
  exact shaL_len _
theorem hsl_len (fs : List ByteArray) (i : Nat) (hi : i ≤ fs.length) : (hsl fs i).length = i := by
  unfold hsl
  rw [List.length_map, List.length_take]
  omega
theorem hsl_at (fs : List ByteArray) (B i : Nat) (hi : i < fs.length) : (hsl fs fs.length)[i]? = some (shaL (leafT (Fof B fs (B + i)))) := by
  unfold hsl Fof
  rw [List.take_length, List.getElem?_map, List.getElem?_eq_getElem hi, show B + i - B = i by omega, List.getD_eq_getElem?_getD, List.getElem?_eq_getElem hi]
  rfl
theorem hcells_snoc (hs : List (List UInt8)) (h : List UInt8) : hcells (hs ++ [h]) = hcells hs ++ Lib.byteCells h := by simp [hcells]
def jAt (B i : Nat) : Nat := (B + i) % 18446744073709551616
def okAt (ls : List ByteArray) (B : Nat) (fs : List ByteArray) (i : Nat) : Bool := decide (jAt B i < ls.length) && decide (ls.getD (jAt B i) ⟨#[]⟩ = fs.getD i ⟨#[]⟩)
/-- Are the first so many claimed leaves the log's? -/
def sameB (ls : List ByteArray) (B : Nat) (fs : List ByteArray) : Nat → Bool
  | 0 => true
  | i + 1 => sameB ls B fs i && okAt ls B fs i
def BatchPost (ok : Prop) (same : Bool) (T : List UInt8) (w : World) (x : Ending) (w' : World) : Prop :=
  Below w.heap.size w w' ∧ (¬ ok → x = .returned (.tuple #[.string ⟨#[]⟩, .string ⟨#[]⟩, .bool false])) ∧
  (ok → same = true → ∃ s, x = .returned (.tuple #[.string s, .string s, .bool false]) ∧ shaL (bs s) = T ∧ (bs s).length ≤ 4611686018427387000) ∧
  (ok → same = false → ∃ s s', x = .returned (.tuple #[.string s, .string s', .bool true]) ∧ bs s ≠ bs s' ∧ shaL (bs s) = shaL (bs s') ∧ (bs s).length ≤ 4611686018427387000 ∧ (bs s').length ≤ 4611686018427387000)
def forgeOk (ls fs : List ByteArray) (B Z : Nat) (pr : List (List UInt8)) : Prop := Z ≤ ls.length ∧ verOk B Z fs.length pr (Fof B fs) (treeF spL (lf ls) Z 0 Z)
theorem outsF_spec (B E : Nat) : ∀ f b e, b < e → e - b ≤ f + 1 → ∀ s ∈ outsF spL B E f b e, (s.2 ≤ B ∨ E ≤ s.1) ∧ b ≤ s.1 ∧ s.1 < s.2 ∧ s.2 ≤ e
  | 0, b, e, h, _, s, hs => by
    rw [outsF] at hs
    split at hs
    · rename_i ho
      obtain rfl := List.mem_singleton.1 hs
      exact ⟨ho, Nat.le_refl _, h, Nat.le_refl _⟩
    · cases hs
  | f + 1, b, e, h, hf, s, hs => by
    rw [outsF] at hs
    split at hs
    · rename_i ho
      obtain rfl := List.mem_singleton.1 hs
      exact ⟨ho, Nat.le_refl _, h, Nat.le_refl _⟩
    · rename_i ho
      split at hs
      · cases hs
      · rename_i hi
        have h2 : 2 ≤ e - b := by omega
        obtain ⟨k1, k2⟩ := spL_mid (e - b) h2
        rcases List.mem_append.1 hs with hm | hm
        · obtain ⟨a1, a2, a3, a4⟩ := outsF_spec B E f b (b + spL (e - b)) (by omega) (by omega) s hm
          exact ⟨a1, a2, a3, by omega⟩
        · obtain ⟨a1, a2, a3, a4⟩ := outsF_spec B E f (b + spL (e - b)) e (by omega) (by omega) s hm
          exact ⟨a1, by omega, a3, a4⟩
theorem lookup_zip_some : ∀ (l : List (Nat × Nat)) (pr : List (List UInt8)), l.length = pr.length → ∀ s ∈ l, ((l.zip pr).lookup s).isSome = true
  | [], _, _, _, h => by cases h
  | a :: l, [], h, _, _ => by cases h
  | a :: l, p :: pr, h, s, hs => by
    rw [List.zip_cons_cons, List.lookup_cons]
    by_cases hsa : s = a
    · subst hsa
      simp
    · rw [show (s == a) = false from beq_eq_false_iff_ne.2 hsa]
      exact lookup_zip_some l pr (by simpa using h) s ((List.mem_cons.1 hs).resolve_left hsa)
theorem lookup_zip_none (l : List (Nat × Nat)) (pr : List (List UInt8)) (s : Nat × Nat) (h : ∀ t ∈ l, t ≠ s) : (l.zip pr).lookup s = none := by
  cases hk : (l.zip pr).lookup s with
  | none => rfl
  | some p =>
    obtain ⟨l1, l2, h1, _⟩ := List.lookup_eq_some_iff.1 hk
    exact absurd rfl (h _ (List.of_mem_zip (by rw [h1]; exact List.mem_append_right _ (List.mem_cons_self ..) : (s, p) ∈ l.zip pr)).1)
theorem batch_looks (B E Z : Nat) (pr : List (List UInt8)) (hZ0 : 0 < Z) (hZ : Z ≤ 400) (hpr : ∀ p ∈ pr, p.length = 32) (hl : (outs B E 0 Z).length = pr.length) : Looks ((outs B E 0 Z).zip pr) := by
  refine ⟨fun p hp => ?_, ?_, fun p hp => hpr _ (List.of_mem_zip hp).2⟩
  · obtain ⟨_, h2, h3, h4⟩ := outsF_spec B E (Z - 0) 0 Z (by omega) (by omega) _ (List.of_mem_zip hp).1
    exact ⟨by omega, by omega⟩
  · have hs := outs_sorted spL spL_mid B E (Z - 0) 0 Z (by omega) (by omega)
    have h1 : ((outs B E 0 Z).zip pr).map Prod.fst = outs B E 0 Z := List.map_fst_zip (by omega)
    have h2 : (((outs B E 0 Z).zip pr).map Prod.fst).Pairwise (fun s t => s.1 < t.1) := by rw [h1]; exact hs
    rw [List.pairwise_map] at h2
    exact h2.imp fun h e => by rw [e] at h; exact absurd h (Nat.lt_irrefl _)
theorem batch_knows (B E Z : Nat) (pr : List (List UInt8)) (hZ0 : 0 < Z) (hl : (outs B E 0 Z).length = pr.length) : Knows ((outs B E 0 Z).zip pr) B E Z 0 Z := by
  refine ⟨fun s hs => lookup_zip_some _ _ hl s hs, fun b e hbe ho => lookup_zip_none _ _ _ fun t ht he => ?_⟩
  obtain ⟨h1, _⟩ := outsF_spec B E (Z - 0) 0 Z (by omega) (by omega) t ht
  subst he
  exact ho h1
theorem sameB_false (ls : List ByteArray) (B : Nat) (fs : List ByteArray) : ∀ n, sameB ls B fs n = false → ∃ i, i < n ∧ okAt ls B fs i = false
  | 0, h => by cases h
  | n + 1, h => by
    rw [sameB] at h
    rcases Bool.and_eq_false_iff.1 h with h1 | h1
    · obtain ⟨i, hi, ho⟩ := sameB_false ls B fs n h1
      exact ⟨i, by omega, ho⟩
    · exact ⟨n, by omega, h1⟩
theorem walkF_len (L : Nat → List UInt8) (P : Nat → Nat → List UInt8) (hP : ∀ b e, (P b e).length = 32) (F : Nat → List UInt8) (B E M : Nat) (hM : 65 ≤ M) (hL : ∀ i, (L i).length + 1 ≤ M) (hF : ∀ i, (F i).length + 1 ≤ M) :
    ∀ f b e x y, walkF spL L P F B E f b e = some (x, y) → x.length ≤ M ∧ y.length ≤ M
  | 0, b, e, x, y, h => by
    simp only [walkF] at h
    split at h
    · cases h
    · split at h
      · cases h
      · injection h with h
        injection h with h1 h2
        subst h1 h2
        exact ⟨hL b, hF b⟩
  | f + 1, b, e, x, y, h => by
    simp only [walkF] at h
    split at h
    · cases h
    · split at h
      · split at h
        · cases h
        · injection h with h
          injection h with h1 h2
          subst h1 h2
          exact ⟨hL b, hF b⟩
      · split at h
        · cases hl : walkF spL L P F B E f b (b + spL (e - b)) with
          | some z =>
            rw [hl] at h
            injection h with h
            subst h
            exact walkF_len L P hP F B E M hM hL hF f _ _ x y hl
          | none =>
            rw [hl] at h
            exact walkF_len L P hP F B E M hM hL hF f _ _ x y h
        · injection h with h
          injection h with h1 h2
          subst h1 h2
          constructor
          · simp [nodeT, treeF_len shaL_len]
            omega
          · simp [nodeT, saysF_len shaL_len spL P hP]
            omega
theorem getD_size (ls : List ByteArray) (M i : Nat) (h : ∀ s ∈ ls, s.size ≤ M) : (bs (ls.getD i ⟨#[]⟩)).length ≤ M := by
  rw [List.getD_eq_getElem?_getD]
  cases hi : ls[i]? with
  | none => exact Nat.zero_le _
  | some s => exact h s (List.mem_of_getElem? hi)
theorem batch_law (ls fs : List ByteArray) (B Z : Nat) (pr : List (List UInt8)) (hls : ∀ s ∈ ls, s.size ≤ 65536) (hfs : ∀ s ∈ fs, s.size ≤ 140737488355327) (hl4 : ls.length ≤ 400) (hpr : ∀ p ∈ pr, p.length = 32) (hok : forgeOk ls fs B Z pr) (hs : sameB ls B fs fs.length = false) :
    ∃ x y, walkF spL (lf ls) (lookP ((outs B (B + fs.length) 0 Z).zip pr)) (Fof B fs) B (B + fs.length) Z 0 Z = some (x, y) ∧ x ≠ y ∧ shaL x = shaL y ∧ x.length ≤ 4611686018427387000 ∧ y.length ≤ 4611686018427387000 := by
  obtain ⟨hZ, ⟨h0, hBZ, hl⟩, hv⟩ := hok
  obtain ⟨i, hi, ho⟩ := sameB_false _ _ _ _ hs
  have hj : jAt B i = B + i := by unfold jAt; omega
  rw [okAt, hj, show decide (B + i < ls.length) = true from decide_eq_true (by omega), Bool.true_and, decide_eq_false_iff_not] at ho
  suffices hmain : ∃ x y, walkF spL (lf ls) (lookP ((outs B (B + fs.length) 0 Z).zip pr)) (Fof B fs) B (B + fs.length) Z 0 Z = some (x, y) ∧ x ≠ y ∧ shaL x = shaL y by
    obtain ⟨x, y, h1, h2, h3⟩ := hmain
    obtain ⟨h4, h5⟩ := walkF_len _ _ (lookP_len (batch_looks B (B + fs.length) Z pr (by omega) (by omega) hpr hl)) _ _ _ 140737488355328 (by omega) (fun i => Nat.le_trans (Nat.succ_le_succ (getD_size ls 65536 i hls)) (by omega)) (fun i => Nat.le_trans (Nat.succ_le_succ (getD_size fs 140737488355327 _ hfs)) (by omega)) _ _ _ _ _ h1
    exact ⟨x, y, h1, h2, h3, by omega, by omega⟩
  refine forge_law shaL_len (lf ls) (Fof B fs) B (B + fs.length) Z pr (by omega) hBZ hpr hl hv (B + i) ⟨by omega, by omega⟩ fun he => ho ?_
  unfold lf Fof at he
  rw [show B + i - B = i by omega] at he
  exact bs_inj he
theorem fof_at (fs : List ByteArray) (B : Nat) (hfs : ∀ s ∈ fs, s.size ≤ 140737488355327) (i : Nat) (hi : i < fs.length) : ∃ s, fs[i]? = some s ∧ Fof B fs (B + i) = bs s ∧ s.size ≤ 140737488355327 := by
  refine ⟨_, List.getElem?_eq_getElem hi, ?_, hfs _ (List.getElem_mem hi)⟩
  unfold Fof
  rw [show B + i - B = i by omega, List.getD_eq_getElem?_getD, List.getElem?_eq_getElem hi]
  rfl
end Go.Proofs.YthcccgbodceeeaaDoor
