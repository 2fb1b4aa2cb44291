/-
  What a path and a proof say, in plain Lean: from below, as the program reckons, and from above, as the trees are made. verify.up, Root and Inclusion by their contracts. verify.Inclusion by its contract.
-/
import Derived.Test.YticlgcfodlcpcaaGreatDoorKeyP
import Derived.Test.YticlgcfodlcpcaaGreatDoorSplitP
import Derived.Test.YticlgcfodlcpcaaGreatDoorNOnce
namespace Go.Proofs.YticlgcfodlcpcaaGreatDoor

abbrev H2 := List UInt8 × List UInt8
/-- The old log's root and the new one's, from below: the level's number of the node, the last number, both hashes so far. -/
def foldC : Nat → Nat → List UInt8 → List UInt8 → List (List UInt8) → Option H2
  | _, last, a, b, [] => if last = 0 then some (a, b) else none
  | n, last, a, b, p :: r =>
    if last = 0 then none
    else if n % 2 = 1 ∨ n = last then foldC ((upF 64 n last).1 / 2) ((upF 64 n last).2 / 2) (shaL (1 :: (p ++ a))) (shaL (1 :: (p ++ b))) r
    else foldC (n / 2) (last / 2) a (shaL (1 :: (b ++ p))) r
theorem foldC_snd : ∀ (r : List (List UInt8)) (n last : Nat) (a b : List UInt8), (foldC n last a b r).map Prod.snd = rootF n last b r
  | [], n, last, a, b => by unfold foldC rootF; split <;> rfl
  | p :: r, n, last, a, b => by
    unfold foldC rootF
    by_cases h : last = 0
    · rw [if_pos h, if_pos h]; rfl
    · rw [if_neg h, if_neg h]
      by_cases h2 : n % 2 = 1 ∨ n = last
      · rw [if_pos h2, if_pos h2]; exact foldC_snd r _ _ _ _
      · rw [if_neg h2, if_neg h2]; exact foldC_snd r _ _ _ _
/-- .. from above: the proof's last hash first. -/
def pairR : List (List UInt8) → Nat → Nat → List UInt8 → List UInt8 → Option H2
  | [], _, m, a, b => if m = 1 then some (a, b) else none
  | p :: r, n, m, a, b =>
    if m = 1 then none
    else if n < spL m then (pairR r n (spL m) a b).map fun x => (x.1, shaL (1 :: (x.2 ++ p)))
    else (pairR r (n - spL m) (m - spL m) a b).map fun x => (shaL (1 :: (p ++ x.1)), shaL (1 :: (p ++ x.2)))
theorem spL_two : spL 2 = 1 := by decide +kernel
theorem spL_half (m : Nat) (h : 3 ≤ m) : spL m = 2 * spL ((m + 1) / 2) := by
  unfold spL
  have e : (m - 1).log2 = ((m + 1) / 2 - 1).log2 + 1 := by
    rw [Nat.log2_def, if_pos (by omega)]
    congr 2
    omega
  rw [e, Nat.pow_succ, Nat.mul_comm]
theorem pairR_sib : ∀ (r : List (List UInt8)) (p : List UInt8) (n m : Nat) (a b : List UInt8), 1 ≤ m → n < m → (n % 2 = 1 ∨ n + 1 < m) →
    pairR (r ++ [p]) n m a b = if n % 2 = 1 then pairR r (n / 2) ((m + 1) / 2) (shaL (1 :: (p ++ a))) (shaL (1 :: (p ++ b))) else pairR r (n / 2) ((m + 1) / 2) a (shaL (1 :: (b ++ p)))
  | [], p, n, m, a, b, h0, h1, h2 => by
    have hm1 : m ≠ 1 := by omega
    rw [List.nil_append]
    unfold pairR
    rw [if_neg hm1]
    by_cases hm2 : m = 2
    · subst hm2
      rw [spL_two]
      have e : (2 + 1) / 2 = 1 := rfl
      simp only [e, if_true]
      by_cases hn : n % 2 = 1
      · rw [if_pos hn, if_neg (by omega)]
        simp [pairR]
      · rw [if_neg hn, if_pos (by omega)]
        simp [pairR]
    · have hk := spL_half m (by omega)
      have hmid := spL_mid m (by omega)
      have hmid2 := spL_mid ((m + 1) / 2) (by omega)
      have e : ¬ (m + 1) / 2 = 1 := by omega
      simp only [e, if_false]
      have hr : ∀ x y : Option H2, x = none → y = none → (if n < spL m then x.map (fun x => (x.1, shaL (1 :: (x.2 ++ p)))) else y.map fun x => (shaL (1 :: (p ++ x.1)), shaL (1 :: (p ++ x.2)))) = none := by
        intro x y hx hy
        rw [hx, hy]
        split <;> rfl
      by_cases hlt : n < spL m
      · rw [if_pos hlt]
        simp only [pairR]
        rw [if_neg (by omega)]
        split <;> rfl
      · rw [if_neg hlt]
        simp only [pairR]
        rw [if_neg (by omega)]
        split <;> rfl
  | q :: r, p, n, m, a, b, h0, h1, h2 => by
    have hm1 : m ≠ 1 := by omega
    rw [List.cons_append, pairR, if_neg hm1]
    by_cases hm2 : m = 2
    · subst hm2
      rw [spL_two]
      have e : (2 + 1) / 2 = 1 := rfl
      have none1 : ∀ (a b : List UInt8) k, pairR (r ++ [p]) k 1 a b = none := by
        intro a b k
        cases r with
        | nil => rw [List.nil_append, pairR, if_pos rfl]
        | cons x r => rw [List.cons_append, pairR, if_pos rfl]
      have none2 : ∀ (a b : List UInt8) k, pairR (q :: r) k 1 a b = none := by
        intro a b k
        rw [pairR, if_pos rfl]
      simp only [e, none1, none2, Option.map_none, ite_self, show (2 - 1 : Nat) = 1 from rfl]
    · have hk := spL_half m (by omega)
      have hmid := spL_mid m (by omega)
      have hmid2 := spL_mid ((m + 1) / 2) (by omega)
      have e : ¬ (m + 1) / 2 = 1 := by omega
      have ih1 := fun (k' : Nat) => pairR_sib r p n (spL m) a b
      by_cases hlt : n < spL m
      · have hlt' : n / 2 < spL ((m + 1) / 2) := by omega
        have hh : (spL m + 1) / 2 = spL ((m + 1) / 2) := by omega
        rw [if_pos hlt, pairR_sib r p n (spL m) a b (by omega) hlt (by omega), hh]
        by_cases hn : n % 2 = 1
        · rw [if_pos hn, if_pos hn, pairR, if_neg e, if_pos hlt']
        · rw [if_neg hn, if_neg hn, pairR, if_neg e, if_pos hlt']
      · have hlt' : ¬ n / 2 < spL ((m + 1) / 2) := by omega
        have e1 : (n - spL m) % 2 = n % 2 := by omega
        have e2 : (n - spL m) / 2 = n / 2 - spL ((m + 1) / 2) := by omega
        have e3 : (m - spL m + 1) / 2 = (m + 1) / 2 - spL ((m + 1) / 2) := by omega
        rw [if_neg hlt, pairR_sib r p (n - spL m) (m - spL m) a b (by omega) (by omega) (by omega), e1, e2, e3]
        by_cases hn : n % 2 = 1
        · rw [if_pos hn, if_pos hn, pairR, if_neg e, if_neg hlt']
        · rw [if_neg hn, if_neg hn, pairR, if_neg e, if_neg hlt']
theorem pairR_lone : ∀ (r : List (List UInt8)) (n m : Nat) (a b : List UInt8), n + 1 = m → n % 2 = 0 → n ≠ 0 → pairR r n m a b = pairR r (n / 2) ((m + 1) / 2) a b
  | [], n, m, a, b, h, h2, h3 => by
    unfold pairR
    rw [if_neg (by omega), if_neg (by omega)]
  | q :: r, n, m, a, b, h, h2, h3 => by
    have hk := spL_half m (by omega)
    have hmid := spL_mid m (by omega)
    have hmid2 := spL_mid ((m + 1) / 2) (by omega)
    rw [pairR, pairR, if_neg (by omega), if_neg (by omega), if_neg (by omega), if_neg (by omega)]
    have e2 : (n - spL m) / 2 = n / 2 - spL ((m + 1) / 2) := by omega
    have e3 : (m - spL m + 1) / 2 = (m + 1) / 2 - spL ((m + 1) / 2) := by omega
    by_cases hz : n - spL m = 0
    · have e4 : n / 2 - spL ((m + 1) / 2) = 0 := by omega
      have e5 : m - spL m = 1 := by omega
      have e6 : (m + 1) / 2 - spL ((m + 1) / 2) = 1 := by omega
      rw [hz, e4, e5, e6]
    · rw [pairR_lone r (n - spL m) (m - spL m) a b (by omega) (by omega) hz, e2, e3]
theorem pairR_up : ∀ (f : Nat) (r : List (List UInt8)) (n : Nat) (a b : List UInt8), n < 2 ^ f → n ≠ 0 → pairR r n (n + 1) a b = pairR r (upF f n n).1 ((upF f n n).1 + 1) a b ∧ (upF f n n).1 % 2 = 1 ∧ (upF f n n).2 = (upF f n n).1
  | 0, _, n, _, _, h, h2 => by omega
  | f + 1, r, n, a, b, h, h2 => by
    unfold upF
    by_cases ho : n % 2 = 1
    · rw [if_neg (by omega)]
      exact ⟨rfl, ho, rfl⟩
    · rw [if_pos (by omega)]
      have ih := pairR_up f r (n / 2) a b (by rw [Nat.pow_succ] at h; omega) (by omega)
      rw [pairR_lone r n (n + 1) a b rfl (by omega) h2, show (n + 1 + 1) / 2 = n / 2 + 1 by omega]
      exact ih
/-- From below and from above: the same. -/
theorem foldC_pair : ∀ (r : List (List UInt8)) (n last : Nat) (a b : List UInt8), n ≤ last → last < 2 ^ 64 → foldC n last a b r = pairR r.reverse n (last + 1) a b
  | [], n, last, a, b, h, h2 => by
    unfold foldC
    rw [List.reverse_nil, pairR]
    by_cases h0 : last = 0
    · rw [if_pos h0, if_pos (by omega)]
    · rw [if_neg h0, if_neg (by omega)]
  | p :: r, n, last, a, b, h, h2 => by
    unfold foldC
    rw [List.reverse_cons]
    by_cases h0 : last = 0
    · subst h0
      rw [if_pos rfl]
      cases hr : r.reverse with
      | nil => rw [List.nil_append, pairR, if_pos rfl]
      | cons x y => rw [List.cons_append, pairR, if_pos rfl]
    · rw [if_neg h0]
      by_cases ho : n % 2 = 1
      · rw [if_pos (Or.inl ho), upF_odd _ _ _ ho, pairR_sib _ _ _ _ _ _ (by omega) (by omega) (Or.inl ho), if_pos ho, foldC_pair r _ _ _ _ (by simp only; omega) (by simp only; omega)]
        simp only
        rw [show last / 2 + 1 = (last + 1 + 1) / 2 by omega]
      · by_cases hl : n = last
        · subst hl
          obtain ⟨e1, e2, e3⟩ := pairR_up 64 (r.reverse ++ [p]) n a b h2 h0
          rw [if_pos (Or.inr rfl), e1, e3]
          have hle : (upF 64 n n).1 ≤ n := by
            have : ∀ f n l, (upF f n l).1 ≤ n := by
              intro f
              induction f with
              | zero => intro n l; exact Nat.le_refl _
              | succ f ih =>
                intro n l
                unfold upF
                split
                · exact Nat.le_trans (ih _ _) (by omega)
                · exact Nat.le_refl _
            exact this _ _ _
          generalize (upF 64 n n).1 = u at *
          rw [pairR_sib _ _ _ _ _ _ (by omega) (by omega) (Or.inl e2), if_pos e2, foldC_pair r _ _ _ _ (Nat.le_refl _) (by omega)]
          rw [show u / 2 + 1 = (u + 1 + 1) / 2 by omega]
        · rw [if_neg (by omega), pairR_sib _ _ _ _ _ _ (by omega) (by omega) (Or.inr (by omega)), if_neg ho, foldC_pair r _ _ _ _ (by omega) (by omega)]
          rw [show last / 2 + 1 = (last + 1 + 1) / 2 by omega]
/-- What a path says, from above. -/
def saysR (r : List (List UInt8)) (n m : Nat) (h : List UInt8) : Option (List UInt8) := (pairR r n m h h).map Prod.snd
theorem rootF_says (r : List (List UInt8)) (n m : Nat) (h : List UInt8) (hn : n < m) (hm : m ≤ 2 ^ 64) : rootF n (m - 1) h r = saysR r.reverse n m h := by
  rw [← foldC_snd r n (m - 1) h h, foldC_pair r n (m - 1) h h (by omega) (by omega), show m - 1 + 1 = m by omega]
  rfl

/-- What a proof says that both roots are, from above. -/
def subR : List (List UInt8) → Nat → Nat → Bool → List UInt8 → Option H2
  | [], old, m, b, before => if old = m ∧ b = true then some (before, before) else none
  | p :: r, old, m, b, before =>
    if old = m then (if b = false ∧ r = [] then some (p, p) else none)
    else if old ≤ spL m then (subR r old (spL m) b before).map fun x => (x.1, shaL (1 :: (x.2 ++ p)))
    else (subR r (old - spL m) (m - spL m) false before).map fun x => (shaL (1 :: (p ++ x.1)), shaL (1 :: (p ++ x.2)))
/-- The levels on which the old log is made of whole pairs are passed over. -/
theorem subR_even : ∀ (r : List (List UInt8)) (old m : Nat) (b : Bool) (before : List UInt8), old % 2 = 0 → 0 < old → old ≤ m → subR r old m b before = subR r (old / 2) ((m + 1) / 2) b before
  | [], old, m, b, before, h, h0, h1 => by
    unfold subR
    by_cases e : old = m
    · have e2 : old / 2 = (m + 1) / 2 := by omega
      by_cases hb : b = true
      · rw [if_pos ⟨e, hb⟩, if_pos ⟨e2, hb⟩]
      · rw [if_neg (fun h => hb h.2), if_neg (fun h => hb h.2)]
    · have e2 : ¬ old / 2 = (m + 1) / 2 := by omega
      rw [if_neg (fun h => e h.1), if_neg (fun h => e2 h.1)]
  | p :: r, old, m, b, before, h, h0, h1 => by
    rw [subR, subR]
    by_cases e : old = m
    · have e2 : old / 2 = (m + 1) / 2 := by omega
      rw [if_pos e, if_pos e2]
    · have e2 : ¬ old / 2 = (m + 1) / 2 := by omega
      have hk := spL_half m (by omega)
      have hmid := spL_mid m (by omega)
      have hmid2 := spL_mid ((m + 1) / 2) (by omega)
      rw [if_neg e, if_neg e2]
      by_cases hle : old ≤ spL m
      · rw [if_pos hle, if_pos (by omega), subR_even r old (spL m) b before h h0 hle, show (spL m + 1) / 2 = spL ((m + 1) / 2) by omega]
      · rw [if_neg hle, if_neg (by omega), subR_even r (old - spL m) (m - spL m) false before (by omega) (by omega) (by omega), show (old - spL m) / 2 = old / 2 - spL ((m + 1) / 2) by omega, show (m - spL m + 1) / 2 = (m + 1) / 2 - spL ((m + 1) / 2) by omega]
theorem spL_pow (m : Nat) : spL m = 1 ∨ spL m % 2 = 0 := by
  unfold spL
  rcases Nat.eq_zero_or_pos (m - 1).log2 with e | e
  · rw [e]; left; rfl
  · right
    obtain ⟨j, hj⟩ : ∃ j, (m - 1).log2 = j + 1 := ⟨_, (Nat.succ_pred_eq_of_pos e).symm⟩
    rw [hj, Nat.pow_succ]
    omega
/-- An old log of an odd number of nodes, two at least: the proof's first hash is its last node. -/
theorem subR_odd : ∀ (r : List (List UInt8)) (p : List UInt8) (n m : Nat) (b : Bool) (before : List UInt8), n % 2 = 0 → n < m → (n + 1 = m → m = 1) → (b = true → n ≠ 0) → subR (r ++ [p]) (n + 1) m b before = pairR r n m p p
  | [], p, n, m, b, before, h, h1, h2, h3 => by
    rw [List.nil_append, subR, pairR]
    by_cases e : n + 1 = m
    · have hm := h2 e
      have hb : b = false := by
        cases b with
        | false => rfl
        | true => exact absurd (by omega) (h3 rfl)
      rw [if_pos e, if_pos hm, if_pos ⟨hb, rfl⟩]
    · have hmid := spL_mid m (by omega)
      have hpw := spL_pow m
      rw [if_neg e, if_neg (show ¬ m = 1 by omega)]
      by_cases hle : n + 1 ≤ spL m
      · rw [if_pos hle, subR, if_neg]
        · rfl
        · rintro ⟨e2, hb⟩
          have := h3 hb
          omega
      · rw [if_neg hle, subR, if_neg (by simp)]
        rfl
  | q :: r, p, n, m, b, before, h, h1, h2, h3 => by
    rw [List.cons_append, subR, pairR]
    by_cases e : n + 1 = m
    · have hm := h2 e
      rw [if_pos e, if_pos hm, if_neg (by simp)]
    · have hmid := spL_mid m (by omega)
      have hpw := spL_pow m
      rw [if_neg e, if_neg (show ¬ m = 1 by omega)]
      by_cases hle : n + 1 ≤ spL m
      · rw [if_pos hle, if_pos (by omega), subR_odd r p n (spL m) b before h (by omega) (by omega) h3]
      · have hk : spL m % 2 = 0 ∨ spL m = 1 := by omega
        rw [if_neg hle, if_neg (by omega)]
        have e1 : n + 1 - spL m = (n - spL m) + 1 := by omega
        by_cases h4 : spL m = 1
        · have hm2 : m = 2 := by
            by_cases hm3 : 3 ≤ m
            · have := spL_half m hm3
              omega
            · omega
          omega
        · rw [e1, subR_odd r p (n - spL m) (m - spL m) false before (by omega) (by omega) (by omega) (by simp)]
/-- An old log of one node. -/
theorem subR_one : ∀ (r : List (List UInt8)) (m : Nat) (before : List UInt8), 1 ≤ m → subR r 1 m true before = pairR r 0 m before before
  | [], m, before, h => by
    rw [subR, pairR]
    by_cases e : m = 1
    · rw [if_pos ⟨e.symm, rfl⟩, if_pos e]
    · rw [if_neg (by rintro ⟨a, _⟩; exact e a.symm), if_neg e]
  | p :: r, m, before, h => by
    rw [subR, pairR]
    by_cases e : m = 1
    · rw [if_pos e.symm, if_pos e, if_neg (by simp)]
    · have hmid := spL_mid m (by omega)
      rw [if_neg (fun a => e a.symm), if_neg e, if_pos (by omega), if_pos (by omega), subR_one r (spL m) before (by omega)]
/-- The levels passed over. -/
def stripF : Nat → Nat → Nat → Nat × Nat
  | 0, n, l => (n, l)
  | f + 1, n, l => if n % 2 = 1 then stripF f (n / 2) (l / 2) else (n, l)
theorem subR_strip : ∀ (f : Nat) (r : List (List UInt8)) (n last : Nat) (b : Bool) (before : List UInt8), n < 2 ^ f → n ≤ last →
    subR r (n + 1) (last + 1) b before = subR r ((stripF f n last).1 + 1) ((stripF f n last).2 + 1) b before ∧ (stripF f n last).1 % 2 = 0 ∧ (stripF f n last).1 ≤ (stripF f n last).2 ∧ (stripF f n last).2 ≤ last ∧ (n < last → (stripF f n last).1 < (stripF f n last).2)
  | 0, r, n, last, b, before, h, h1 => by
    unfold stripF
    exact ⟨rfl, by omega, h1, Nat.le_refl _, id⟩
  | f + 1, r, n, last, b, before, h, h1 => by
    unfold stripF
    by_cases ho : n % 2 = 1
    · rw [if_pos ho]
      have ih := subR_strip f r (n / 2) (last / 2) b before (by rw [Nat.pow_succ] at h; omega) (by omega)
      rw [subR_even r (n + 1) (last + 1) b before (by omega) (by omega) (by omega), show (n + 1) / 2 = n / 2 + 1 by omega, show (last + 1 + 1) / 2 = last / 2 + 1 by omega]
      exact ⟨ih.1, ih.2.1, ih.2.2.1, by omega, fun hlt => ih.2.2.2.2 (by omega)⟩
    · rw [if_neg ho]
      exact ⟨rfl, by omega, h1, Nat.le_refl _, id⟩
/-- verify.Consistency: 0, ErrRange or ErrProof. -/
def consF (old size : Nat) (before after : List UInt8) (proof : List (List UInt8)) : Nat :=
  if 9223372036854775808 < size ∨ old = 0 ∨ size < old then 5
  else if old = size then (if proof = [] ∧ before = after then 0 else 10)
  else if (stripF 64 (old - 1) (size - 1)).1 = 0 then (if foldC 0 (stripF 64 (old - 1) (size - 1)).2 before before proof = some (before, after) then 0 else 10)
  else match proof with
    | [] => 10
    | p :: r => if foldC (stripF 64 (old - 1) (size - 1)).1 (stripF 64 (old - 1) (size - 1)).2 p p r = some (before, after) then 0 else 10
/-- .. and from above. -/
theorem consF_sub (old size : Nat) (before after : List UInt8) (proof : List (List UInt8)) (h0 : 0 < old) (h1 : old ≤ size) (h2 : size ≤ 9223372036854775808) :
    consF old size before after proof = if subR proof.reverse old size true before = some (before, after) then 0 else 10 := by
  unfold consF
  rw [if_neg (by omega)]
  by_cases he : old = size
  · rw [if_pos he]
    cases hp : proof with
    | nil => simp [subR, he]
    | cons p r =>
      have : ∀ l : List (List UInt8), l ≠ [] → subR l old size true before = none := by
        intro l hl
        cases l with
        | nil => exact absurd rfl hl
        | cons x y => simp [subR, he]
      rw [this _ (by simp)]
      simp
  · rw [if_neg he]
    obtain ⟨e1, e2, e3, e4, e5⟩ := subR_strip 64 proof.reverse (old - 1) (size - 1) true before (by omega) (by omega)
    have e5 := e5 (by omega)
    rw [show old - 1 + 1 = old by omega, show size - 1 + 1 = size by omega] at e1
    rw [e1]
    have e6 : (stripF 64 (old - 1) (size - 1)).2 < 2 ^ 64 := by omega
    generalize (stripF 64 (old - 1) (size - 1)).1 = n at *
    generalize (stripF 64 (old - 1) (size - 1)).2 = last at *
    by_cases hn : n = 0
    · subst hn
      rw [if_pos rfl, Nat.zero_add, subR_one _ _ _ (by omega), foldC_pair _ _ _ _ _ (by omega) e6]
    · rw [if_neg hn]
      cases proof with
      | nil =>
        rw [List.reverse_nil, subR, if_neg (show ¬ (n + 1 = last + 1 ∧ true = true) from fun h => absurd h.1 (by omega))]
        rfl
      | cons p r =>
        simp only
        rw [List.reverse_cons, subR_odd _ _ _ _ _ _ e2 (by omega) (by omega) (fun _ => hn), foldC_pair _ _ _ _ _ (by omega) e6]
end Go.Proofs.YticlgcfodlcpcaaGreatDoor

namespace Go.Proofs.YticlgcfodlcpcaaGreatDoor
open Go.RowKit

theorem and1_u64 (n : Nat) (h : n < 18446744073709551616) : bits .and .u64 (n : Int) 1 = ((n % 2 : Nat) : Int) := by
  have := u64_and_nat n 1 h (by omega)
  rw [show (1 : Nat) = 2 ^ 1 - 1 from rfl, Nat.and_two_pow_sub_one_eq_mod] at this
  exact this
theorem upF_le : ∀ f n l, (upF f n l).1 ≤ n ∧ (upF f n l).2 ≤ l := by
  intro f
  induction f with
  | zero => intro n l; exact ⟨Nat.le_refl _, Nat.le_refl _⟩
  | succ f ih =>
    intro n l
    unfold upF
    split
    · have := ih (n / 2) (l / 2)
      omega
    · exact ⟨Nat.le_refl _, Nat.le_refl _⟩
theorem upF_more : ∀ f n l, n < 2 ^ f → upF (f + 1) n l = upF f n l
  | 0, n, l, h => by
    obtain rfl : n = 0 := by omega
    rfl
  | f + 1, n, l, h => by
    show (if n % 2 = 0 ∧ n ≠ 0 then upF (f + 1) (n / 2) (l / 2) else (n, l)) = (if n % 2 = 0 ∧ n ≠ 0 then upF f (n / 2) (l / 2) else (n, l))
    by_cases c : n % 2 = 0 ∧ n ≠ 0
    · rw [if_pos c, if_pos c]
      exact upF_more f (n / 2) (l / 2) (by rw [Nat.pow_succ] at h; omega)
    · rw [if_neg c, if_neg c]
theorem upF_step (n l : Nat) (h : n < 2 ^ 64) (c : n % 2 = 0 ∧ n ≠ 0) : upF 64 n l = upF 64 (n / 2) (l / 2) := by
  rw [← upF_more 64 n l h, upF, if_pos c]
theorem upF_stop (n l : Nat) (c : ¬ (n % 2 = 0 ∧ n ≠ 0)) : upF 64 n l = (n, l) := by rw [upF, if_neg c]
set_option maxHeartbeats 1000000 in
set_option maxRecDepth 100000 in
theorem up_any (n l : Nat) (hn : n < 18446744073709551616) (hl : l < 18446744073709551616) (w : World) :
    Calls Tryz.prog 131 #[.int .u64 (n : Int), .int .u64 (l : Int)] w fun e w' => e = .returned (.tuple #[.int .u64 ((upF 64 n l).1 : Int), .int .u64 ((upF 64 n l).2 : Int)]) ∧ w = w' := by
  go_enter Tryz.func131, Tryz.ntmps131
  go_wp2_with fail
  go_loopw [0, 1] (fun a b wr => ∃ x y : Nat, a = .int .u64 (x : Int) ∧ b = .int .u64 (y : Int) ∧ x < 18446744073709551616 ∧ y < 18446744073709551616 ∧ upF 64 n l = upF 64 x y ∧ w = wr) (fun a _ _ => (intOf a).toNat)
  case atStart => exact ⟨n, l, rfl, rfl, hn, hl, rfl, rfl⟩
  case round =>
    obtain ⟨x, y, rfl, rfl, hx, hy, he, rfl⟩ := hrel
    have HE := Lib.hid he
    have HX := Lib.hid hx
    have HY := Lib.hid hy
    have a1 := and1_u64 x hx
    have x0 : (0 : Int) ≤ (x : Int) := by omega
    have y0 : (0 : Int) ≤ (y : Int) := by omega
    rcases (show x % 2 = 0 ∨ x % 2 = 1 by omega) with h2 | h2
    · replace a1 : bits .and .u64 (x : Int) 1 = 0 := by rw [a1, h2]; rfl
      by_cases hz : x = 0
      · subst hz
        clear he hx hy
        go_wp2_with fail
        go_ret2
        exact ⟨by rw [HE.out, upF_stop _ _ (by omega)]; rfl, rfl⟩
      · have xn : ¬ (x : Int) = 0 := by omega
        have HS := Lib.hid (upF_step x y (by omega) ⟨h2, hz⟩)
        have HZ := Lib.hid hz
        clear he hx hy h2 hz
        go_wp2_with fail
        exact ⟨⟨x / 2, y / 2, by go_num, by go_num, by have := HX.out; omega, by have := HY.out; omega, by rw [HE.out, HS.out], trivial⟩, by have := HZ.out; simp [intOf]; omega⟩
    · replace a1 : bits .and .u64 (x : Int) 1 = 1 := by rw [a1, h2]; rfl
      have HS := Lib.hid (upF_stop x y (by omega))
      clear he hx hy h2
      go_wp2_with fail
      go_ret2
      exact ⟨by rw [HE.out, HS.out]; rfl, rfl⟩

/-- What Root answers: the error; the hash where there is none. -/
def rootE (idx size : Nat) (leaf : List UInt8) (path : List (List UInt8)) : Nat := if 9223372036854775808 < size ∨ size ≤ idx then 5 else if (rootF idx (size - 1) leaf path).isSome then 0 else 10
def errN (S : Nat → Addr) (n : Nat) : Value := if n = 0 then .nilIface else errV S n
def RootPost (S : Nat → Addr) (idx size : Nat) (leaf : List UInt8) (path : List (List UInt8)) (w : World) (x : Ending) (w' : World) : Prop :=
  (∃ T : List UInt8, T.length = 32 ∧ x = .returned (.tuple #[hv T, errN S (rootE idx size leaf path)]) ∧ (rootE idx size leaf path = 0 → rootF idx (size - 1) leaf path = some T)) ∧ Below w.heap.size w w'
def VRel (idx size : Nat) (leaf z : List UInt8) (path : List (List UInt8)) (w : World) (g11 : Nat) (iv lv kv : Value) (wr : World) : Prop :=
  ∃ (k n l : Nat) (H : List UInt8), k ≤ path.length ∧ kv = .int .i64 (k : Int) ∧ iv = .int .u64 (n : Int) ∧ lv = .int .u64 (l : Int) ∧ n < 9223372036854775808 ∧ l < 9223372036854775808 ∧ rootF idx (size - 1) leaf path = rootF n l H (path.drop k) ∧ HashAt wr g11 H ∧ HashAt wr (w.heap.size + 1) z ∧ Below w.heap.size w wr
set_option maxHeartbeats 8000000 in
set_option maxRecDepth 100000 in
theorem vroot_any (S : Nat → Addr) (idx size : Nat) (hi : idx < 18446744073709551616) (hs : size < 18446744073709551616) (leaf : List UInt8) (hl : leaf.length = 32) (path : List (List UInt8)) (u : Value) (hp : path.length ≤ 140737488355328) (w : World) (hF : FW S w) (hu : HsIn w u path) :
    Calls Tryz.prog 95 #[.int .u64 (idx : Int), .int .u64 (size : Int), hv leaf, u] w fun x w' => RootPost S idx size leaf path w x w' := by
  obtain ⟨z32, hz32, hzs⟩ := z32_ex2
  obtain ⟨h32, ao, cap, rfl, _, hr⟩ := hu
  have HR := Lib.hid hr
  have H32 := Lib.hid h32
  have HLL := Lib.hid hl
  have HZS := Lib.hid hzs
  have HF := Lib.hid hF
  have hlt5 : errG 5 < w.heap.size := lt_of_cell (hF.var 5 (by omega) (by omega))
  have hlt10 : errG 10 < w.heap.size := lt_of_cell (hF.var 10 (by omega) (by omega))
  have HL5 := Lib.hid hlt5
  have HL10 := Lib.hid hlt10
  clear hF hl hzs hr h32 hlt5 hlt10
  go_enter Tryz.func95, Tryz.ntmps95
  go_upto_region 1 with fail
  have h6 := HashAt.new w leaf HLL.out
  have hb6 := below_one w (.cells (Lib.byteCells leaf).toArray 23)
  have hs6 : (w.alloc (.cells (Lib.byteCells leaf).toArray 23)).heap.size = w.heap.size + 1 := by simp
  generalize w.alloc (.cells (Lib.byteCells leaf).toArray 23) = w6 at *
  have h8 := HashAt.new w6 z32 HZS.out
  have hb8 := below_one w6 (.cells (Lib.byteCells z32).toArray 23)
  rw [hs6] at h8
  have H6 := Lib.hid (h6.below hb8)
  have H8 := Lib.hid h8
  have HBO := Lib.hid (hb6.trans (hb8.mono hb6.size))
  generalize w6.alloc (.cells (Lib.byteCells z32).toArray 23) = wo at *
  clear h6 hb6 hs6 h8 hb8
  by_cases hbad : 9223372036854775808 < size ∨ size ≤ idx
  · have HE := Lib.hid (show rootE idx size leaf path = 5 by unfold rootE; rw [if_pos hbad])
    by_cases c1 : 9223372036854775808 < size
    · have i1 : (9223372036854775808 : Int) < (size : Int) := by omega
      clear hbad c1
      go_upto_region 2 with fail
      have ge := (HF.out.below HBO.out).var 5 (by omega) (by omega)
      have hdr : Below wo.heap.size wo wo.drew := (Below.refl _ _).drew
      have HR0 := Lib.hid (show Below w.heap.size w wo.drew ∧ (wo.drew).cell? ⟨errG 5, 0, none⟩ = some (errV S 5) ∧ (wo.drew).there (w.heap.size + 1) 0 32 from ⟨HBO.out.trans (hdr.mono HBO.out.size), below_cell hdr ge, (H8.out.below hdr).there⟩)
      have HR1 := Lib.hid (show Below w.heap.size w (wo.drew.setCells (w.heap.size + 1) 0 (Lib.byteCells z32)) ∧ ((wo.drew.setCells (w.heap.size + 1) 0 (Lib.byteCells z32))).cell? ⟨errG 5, 0, none⟩ = some (errV S 5) ∧ ((wo.drew.setCells (w.heap.size + 1) 0 (Lib.byteCells z32))).there (w.heap.size + 1) 0 32 from
        ⟨below_setCellsN (show w.heap.size ≤ w.heap.size + 1 by omega) _ _ _ (HBO.out.trans (hdr.mono HBO.out.size)), (World.cell?_of_block (w := wo.drew) (setCells_other (Lib.byteCells z32) 0 wo.drew (w.heap.size + 1) _ (show errG 5 ≠ w.heap.size + 1 by have := HL5.out; omega))).trans (below_cell hdr ge), World.there_setCells (H8.out.below hdr).there _ _ _⟩)
      have HRZ := Lib.hid (show HashAt (wo.drew.setCells (w.heap.size + 1) 0 (Lib.byteCells z32)) (w.heap.size + 1) z32 by
        rw [(H8.out.below hdr).setCells HZS.out]
        exact (H8.out.below hdr).set HZS.out)
      have hund := Tryz.underlying23
      have hinf : (Tryz.prog.info? 23).map (fun x => x.size) = some (Lib.byteCells z32).length := by rw [Lib.byteCells_length, HZS.out]; exact hashInfo
      have hl32 : (Lib.byteCells z32).length = 32 := by rw [Lib.byteCells_length, HZS.out]
      have hone := cells_oneC z32
      clear ge hdr
      simp only [errG, errV] at HR0 HR1
      go_region_held3 (fun W' => Below w.heap.size w W' ∧ W'.cell? ⟨6, 0, none⟩ = some (.iface 251 (.pointer (some (S 5)))) ∧ W'.there (w.heap.size + 1) 0 32)
        (first | (with_reducible exact HR0.out) | (with_reducible exact HR1.out))
        (fail)
      generalize wo.drew.setCells (w.heap.size + 1) 0 (Lib.byteCells z32) = wZ at *
      go_wp2_with fail
      exact bodyPost_ret (results_Ht rfl rfl _ _ _ _ _ rfl rfl HRZ.out) rfl ⟨⟨z32, HZS.out, by rw [HE.out]; rfl, fun h => by rw [HE.out] at h; cases h⟩, HR1.out.1⟩
    · have i1 : ¬ (9223372036854775808 : Int) < (size : Int) := by omega
      have i2 : (size : Int) ≤ (idx : Int) := by omega
      clear hbad c1
      go_upto_region 2 with fail
      have ge := (HF.out.below HBO.out).var 5 (by omega) (by omega)
      have hdr : Below wo.heap.size wo wo.drew := (Below.refl _ _).drew
      have HR0 := Lib.hid (show Below w.heap.size w wo.drew ∧ (wo.drew).cell? ⟨errG 5, 0, none⟩ = some (errV S 5) ∧ (wo.drew).there (w.heap.size + 1) 0 32 from ⟨HBO.out.trans (hdr.mono HBO.out.size), below_cell hdr ge, (H8.out.below hdr).there⟩)
      have HR1 := Lib.hid (show Below w.heap.size w (wo.drew.setCells (w.heap.size + 1) 0 (Lib.byteCells z32)) ∧ ((wo.drew.setCells (w.heap.size + 1) 0 (Lib.byteCells z32))).cell? ⟨errG 5, 0, none⟩ = some (errV S 5) ∧ ((wo.drew.setCells (w.heap.size + 1) 0 (Lib.byteCells z32))).there (w.heap.size + 1) 0 32 from
        ⟨below_setCellsN (show w.heap.size ≤ w.heap.size + 1 by omega) _ _ _ (HBO.out.trans (hdr.mono HBO.out.size)), (World.cell?_of_block (w := wo.drew) (setCells_other (Lib.byteCells z32) 0 wo.drew (w.heap.size + 1) _ (show errG 5 ≠ w.heap.size + 1 by have := HL5.out; omega))).trans (below_cell hdr ge), World.there_setCells (H8.out.below hdr).there _ _ _⟩)
      have HRZ := Lib.hid (show HashAt (wo.drew.setCells (w.heap.size + 1) 0 (Lib.byteCells z32)) (w.heap.size + 1) z32 by
        rw [(H8.out.below hdr).setCells HZS.out]
        exact (H8.out.below hdr).set HZS.out)
      have hund := Tryz.underlying23
      have hinf : (Tryz.prog.info? 23).map (fun x => x.size) = some (Lib.byteCells z32).length := by rw [Lib.byteCells_length, HZS.out]; exact hashInfo
      have hl32 : (Lib.byteCells z32).length = 32 := by rw [Lib.byteCells_length, HZS.out]
      have hone := cells_oneC z32
      clear ge hdr
      simp only [errG, errV] at HR0 HR1
      go_region_held3 (fun W' => Below w.heap.size w W' ∧ W'.cell? ⟨6, 0, none⟩ = some (.iface 251 (.pointer (some (S 5)))) ∧ W'.there (w.heap.size + 1) 0 32)
        (first | (with_reducible exact HR0.out) | (with_reducible exact HR1.out))
        (fail)
      generalize wo.drew.setCells (w.heap.size + 1) 0 (Lib.byteCells z32) = wZ at *
      go_wp2_with fail
      exact bodyPost_ret (results_Ht rfl rfl _ _ _ _ _ rfl rfl HRZ.out) rfl ⟨⟨z32, HZS.out, by rw [HE.out]; rfl, fun h => by rw [HE.out] at h; cases h⟩, HR1.out.1⟩
  · have c1 : size ≤ 9223372036854775808 := by omega
    have c2 : idx < size := by omega
    have i1 : ¬ (9223372036854775808 : Int) < (size : Int) := by omega
    have i2 : ¬ (size : Int) ≤ (idx : Int) := by omega
    have HE := Lib.hid (show rootE idx size leaf path = if (rootF idx (size - 1) leaf path).isSome then 0 else 10 by unfold rootE; rw [if_neg hbad])
    obtain ⟨l0, hl0⟩ : ∃ l0, size - 1 = l0 := ⟨_, rfl⟩
    have q1 : (size : Int) - 1 = (l0 : Int) := by omega
    have q2 : IntKind.u64.wrap ((size : Int) - 1) = (l0 : Int) := by rw [IntKind.wrap_u64]; omega
    have q3 : IntKind.u64.wrap (l0 : Int) = (l0 : Int) := by rw [IntKind.wrap_u64]; omega
    have HC1 := Lib.hid c1
    have HC2 := Lib.hid c2
    have HL0 := Lib.hid hl0
    clear hbad c1 c2 hl0
    go_upto_region 3 with fail
    go_cut [10, 11] (fun s1 s2 wx => ∃ g, s1 = .int .u64 (l0 : Int) ∧ s2 = .pointer (some ⟨g, 0, none⟩) ∧ HashAt wx g leaf ∧ wo.heap.size ≤ g ∧ Below wo.heap.size wo wx)
    case first =>
      have HK := Lib.hid (fun (W' : World) (hb : Below wo.heap.size wo W') => (⟨hb, (H6.out.below hb).range⟩ : Below wo.heap.size wo W' ∧ W'.rangeAt w.heap.size 0 (Lib.byteCells leaf)))
      have hone := cells_oneC leaf
      have hund := Tryz.underlying23
      have hinf : (Tryz.prog.info? 23).map (fun x => x.size) = some (Lib.byteCells leaf).length := by rw [Lib.byteCells_length, HLL.out]; exact hashInfo
      have hr3 : HashAt ((wo.alloc (.cells (Lib.byteCells z32).toArray 23)).drew) wo.heap.size z32 := (HashAt.new wo z32 HZS.out).below ((Below.refl _ _).drew)
      have hthr : ((wo.alloc (.cells (Lib.byteCells z32).toArray 23)).drew).there wo.heap.size 0 (Lib.byteCells leaf).length := by rw [Lib.byteCells_length, HLL.out]; exact hr3.there
      have hsc := hr3.setCells HLL.out
      have hsr := hr3.set HLL.out
      have hsb := below_setRow (below_one wo (.cells (Lib.byteCells z32).toArray 23)).drew (Nat.le_refl _) (Lib.byteCells leaf).toArray
      go_region_held3 (fun W' => Below wo.heap.size wo W' ∧ W'.rangeAt w.heap.size 0 (Lib.byteCells leaf))
        (first | exact HK.out _ (below_drewN (Below.refl _ _) 1) | exact HK.out _ (below_one wo _).drew | (rw [hsc]; exact HK.out _ hsb))
        (fail)
      all_goals (go_wp2_with fail; go_meet; exact ⟨_, by rfl, rfl, by first | exact hsr | (rw [hsc]; exact hsr), Nat.le_refl _, by first | exact hsb | (rw [hsc]; exact hsb)⟩)
    case rest =>
      obtain ⟨g11, rfl, rfl, h11, hg11, hbx⟩ := hcut
      have HG8 := Lib.hid (show w.heap.size + 1 < g11 from by have h1 := H8.out.lt; omega)
      have H8 := Lib.hid (H8.out.below hbx)
      have HBX := Lib.hid (HBO.out.trans (hbx.mono HBO.out.size))
      have H11 := Lib.hid h11
      clear h11 hg11 hbx HBO H6
      go_wp2_with fail
      go_loopw [0, 10, 28] (fun iv lv kv wr => VRel idx size leaf z32 path w g11 iv lv kv wr) (fun _ _ kv _ => path.length - (intOf kv).toNat)
      case atStart => exact ⟨0, idx, l0, leaf, Nat.zero_le _, rfl, rfl, rfl, by have := HC1.out; have := HC2.out; omega, by have := HC1.out; have := HC2.out; have := HL0.out; omega, by rw [HL0.out]; rfl, H11.out, H8.out, HBX.out⟩
      case round =>
        obtain ⟨k, n, l, H, hk, rfl, rfl, rfl, hn, hll, hrt, h11, h8, hbel⟩ := hrel
        rename World => wA
        have HA11 := Lib.hid h11
        have HA8 := Lib.hid h8
        have HAB := Lib.hid hbel
        have HNN := Lib.hid hn
        have HLN := Lib.hid hll
        by_cases hlt : k < path.length
        · obtain ⟨p, hpk⟩ : ∃ p, path[k]? = some p := ⟨_, List.getElem?_eq_getElem hlt⟩
          have hdr : path.drop k = p :: path.drop (k + 1) := by
            rw [List.drop_eq_getElem_cons hlt]
            congr 1
            rw [List.getElem?_eq_getElem hlt] at hpk
            exact Option.some.inj hpk
          have i3 : (k : Int) < (path.length : Int) := by omega
          have i0 : (0 : Int) ≤ (k : Int) := by omega
          obtain ⟨g, o, rfl, hrow⟩ := HR.out (fun e => by rw [e] at hlt; simp at hlt)
          have HRP := Lib.hid (range_below hbel (HsIn.at H32.out hrow hpk))
          have HPL := Lib.hid (H32.out p (List.mem_of_getElem? hpk))
          rw [hdr] at hrt
          have HRT := Lib.hid hrt
          have HLT := Lib.hid hlt
          clear hrt hdr hrow h11 h8 hbel hn hll hlt hpk
          go_upto_region 7 with (first | (refine wpList_hashLoad2 (by rfl) (.tmp 30) (by rfl) g (o + k * 32) (by rfl) p HPL.out HRP.out ?_) | (refine wpList_hash (by rfl) (.tmp 13) (.tmp 31) (by rfl) (by rfl) (by rfl) (hash_size HPL.out) (hash_size HZS.out) (byteCells_all p) ?_))
          have hB13 := HashAt.new wA p HPL.out
          have hbB := below_one wA (.cells (Lib.byteCells p).toArray 23)
          have HB13 := Lib.hid hB13
          have HB11 := Lib.hid (HA11.out.below hbB)
          have HB8 := Lib.hid (HA8.out.below hbB)
          have HBB := Lib.hid (HAB.out.trans (hbB.mono HAB.out.size))
          generalize wA.alloc (.cells (Lib.byteCells p).toArray 23) = wB at *
          generalize wA.heap.size = g13 at *
          clear hB13 hbB
          by_cases hz : l = 0
          · subst hz
            have HEV := Lib.hid (show rootE idx size leaf path = 10 by rw [HE.out, HRT.out, rootF, if_pos rfl]; rfl)
            go_upto_region 8 with fail
            have ge := (HF.out.below HBB.out).var 10 (by omega) (by omega)
            have hdr : Below wB.heap.size wB wB.drew := (Below.refl _ _).drew
            have HR0 := Lib.hid (show Below w.heap.size w wB.drew ∧ (wB.drew).cell? ⟨errG 10, 0, none⟩ = some (errV S 10) ∧ (wB.drew).there (w.heap.size + 1) 0 32 from ⟨HBB.out.trans (hdr.mono HBB.out.size), below_cell hdr ge, (HB8.out.below hdr).there⟩)
            have HR1 := Lib.hid (show Below w.heap.size w (wB.drew.setCells (w.heap.size + 1) 0 (Lib.byteCells z32)) ∧ ((wB.drew.setCells (w.heap.size + 1) 0 (Lib.byteCells z32))).cell? ⟨errG 10, 0, none⟩ = some (errV S 10) ∧ ((wB.drew.setCells (w.heap.size + 1) 0 (Lib.byteCells z32))).there (w.heap.size + 1) 0 32 from
              ⟨below_setCellsN (show w.heap.size ≤ w.heap.size + 1 by omega) _ _ _ (HBB.out.trans (hdr.mono HBB.out.size)), (World.cell?_of_block (w := wB.drew) (setCells_other (Lib.byteCells z32) 0 wB.drew (w.heap.size + 1) _ (show errG 10 ≠ w.heap.size + 1 by have := HL10.out; omega))).trans (below_cell hdr ge), World.there_setCells (HB8.out.below hdr).there _ _ _⟩)
            have HRZ := Lib.hid (show HashAt (wB.drew.setCells (w.heap.size + 1) 0 (Lib.byteCells z32)) (w.heap.size + 1) z32 by
              rw [(HB8.out.below hdr).setCells HZS.out]
              exact (HB8.out.below hdr).set HZS.out)
            have hund := Tryz.underlying23
            have hinf : (Tryz.prog.info? 23).map (fun x => x.size) = some (Lib.byteCells z32).length := by rw [Lib.byteCells_length, HZS.out]; exact hashInfo
            have hl32 : (Lib.byteCells z32).length = 32 := by rw [Lib.byteCells_length, HZS.out]
            have hone := cells_oneC z32
            clear ge hdr
            simp only [errG, errV] at HR0 HR1
            go_region_held3 (fun W' => Below w.heap.size w W' ∧ W'.cell? ⟨11, 0, none⟩ = some (.iface 251 (.pointer (some (S 10)))) ∧ W'.there (w.heap.size + 1) 0 32)
              (first | (with_reducible exact HR0.out) | (with_reducible exact HR1.out))
              (fail)
            generalize wB.drew.setCells (w.heap.size + 1) 0 (Lib.byteCells z32) = wZ at *
            go_wp2_with fail
            exact bodyPost_ret (results_Ht rfl rfl _ _ _ _ _ rfl rfl HRZ.out) rfl ⟨⟨z32, HZS.out, by rw [HEV.out]; rfl, fun h => by rw [HEV.out] at h; cases h⟩, HR1.out.1⟩
          · have j1 : ¬ (l : Int) = 0 := by omega
            have a1 := and1_u64 n (by have := HNN.out; omega)
            have x0 : (0 : Int) ≤ (n : Int) := by omega
            have y0 : (0 : Int) ≤ (l : Int) := by omega
            have HLZ := Lib.hid hz
            by_cases hside : n % 2 = 1 ∨ n = l
            · have HRS := Lib.hid (show rootF idx (size - 1) leaf path = rootF ((upF 64 n l).1 / 2) ((upF 64 n l).2 / 2) (shaL (1 :: (p ++ H))) (path.drop (k + 1)) by rw [HRT.out, rootF, if_neg hz, if_pos hside])
              obtain ⟨N, hN⟩ : ∃ N, shaL (1 :: (p ++ H)) = N := ⟨_, rfl⟩
              rw [hN] at HRS
              have HNL := Lib.hid (show N.length = 32 by rw [← hN]; exact shaL_len _)
              have HND := Lib.hid (by
                have h := node_any p H HPL.out HB11.out.2 wB (HF.out.below HBB.out).tab (HF.out.below HBB.out).lt
                rw [hN] at h
                exact h)
              have HUP := Lib.hid fun (W : World) => up_any n l (by have := HNN.out; omega) (by have := HLN.out; omega) W
              have hul := upF_le 64 n l
              obtain ⟨n', hn'⟩ : ∃ n', (upF 64 n l).1 = n' := ⟨_, rfl⟩
              obtain ⟨l', hl'⟩ : ∃ l', (upF 64 n l).2 = l' := ⟨_, rfl⟩
              rw [hn', hl'] at HUP HRS hul
              have HUL := Lib.hid hul
              clear hN hn' hl' hul
              have HT : (bits .and .u64 (n : Int) 1 = 1) ∨ (bits .and .u64 (n : Int) 1 = 0 ∧ n = l) := by
                rcases hside with h | h
                · exact Or.inl (by rw [a1, h]; rfl)
                · rcases (show n % 2 = 1 ∨ n % 2 = 0 by omega) with h2 | h2
                  · exact Or.inl (by rw [a1, h2]; rfl)
                  · exact Or.inr ⟨by rw [a1, h2]; rfl, h⟩
              clear a1 hside hz
              rcases HT with t1 | ⟨t1, rfl⟩
              · go_wp2_with (first | (refine wpList_ldH (by rfl) (.tmp 13) (by rfl) (by rfl) HB13.out ?_) | (refine wpList_ldH (by rfl) (.tmp 11) (by rfl) (by rfl) HB11.out ?_) | (go_at_call 27; refine HND.out.mono ?_))
                first
                  | rintro x wC rfl hbC
                  | rintro x wC ⟨rfl, hbC⟩
                have HC11 := Lib.hid (HB11.out.below hbC)
                have HC8 := Lib.hid (HB8.out.below hbC)
                have HCB := Lib.hid (HBB.out.trans (hbC.mono HBB.out.size))
                clear hbC
                go_wp2_with (refine wpList_stH (by rfl) (.tmp 11) (.tmp 46) (by rfl) (by rfl) (by rfl) HC11.out HNL.out ?_)
                have HD11 := Lib.hid (HC11.out.set HNL.out)
                have HD8 := Lib.hid (HC8.out.other (k := g11) (Lib.byteCells N).toArray (by have := HG8.out; omega))
                have HDB := Lib.hid (below_setRow HCB.out (show w.heap.size ≤ g11 by have := HG8.out; omega) (Lib.byteCells N).toArray)
                generalize wC.setRow g11 (Lib.byteCells N).toArray = wD at *
                go_wp2_with (go_at_call 131; refine (HUP.out _).mono ?_; rintro e w' ⟨rfl, rfl⟩)
                exact ⟨⟨k + 1, n' / 2, l' / 2, N, HLT.out, by go_num, by go_num, by go_num, by have := HNN.out; have := HUL.out; omega, by have := HLN.out; have := HUL.out; omega, HRS.out, HD11.out, HD8.out, HDB.out⟩, by have := HLT.out; simp [intOf]; omega⟩
              · go_wp2_with (first | (refine wpList_ldH (by rfl) (.tmp 13) (by rfl) (by rfl) HB13.out ?_) | (refine wpList_ldH (by rfl) (.tmp 11) (by rfl) (by rfl) HB11.out ?_) | (go_at_call 27; refine HND.out.mono ?_))
                first
                  | rintro x wC rfl hbC
                  | rintro x wC ⟨rfl, hbC⟩
                have HC11 := Lib.hid (HB11.out.below hbC)
                have HC8 := Lib.hid (HB8.out.below hbC)
                have HCB := Lib.hid (HBB.out.trans (hbC.mono HBB.out.size))
                clear hbC
                go_wp2_with (refine wpList_stH (by rfl) (.tmp 11) (.tmp 46) (by rfl) (by rfl) (by rfl) HC11.out HNL.out ?_)
                have HD11 := Lib.hid (HC11.out.set HNL.out)
                have HD8 := Lib.hid (HC8.out.other (k := g11) (Lib.byteCells N).toArray (by have := HG8.out; omega))
                have HDB := Lib.hid (below_setRow HCB.out (show w.heap.size ≤ g11 by have := HG8.out; omega) (Lib.byteCells N).toArray)
                generalize wC.setRow g11 (Lib.byteCells N).toArray = wD at *
                go_wp2_with (go_at_call 131; refine (HUP.out _).mono ?_; rintro e w' ⟨rfl, rfl⟩)
                exact ⟨⟨k + 1, n' / 2, l' / 2, N, HLT.out, by go_num, by go_num, by go_num, by have := HNN.out; have := HUL.out; omega, by have := HLN.out; have := HUL.out; omega, HRS.out, HD11.out, HD8.out, HDB.out⟩, by have := HLT.out; simp [intOf]; omega⟩
            · have a0 : bits .and .u64 (n : Int) 1 = 0 := by rw [a1, show n % 2 = 0 by omega]; rfl
              have e0 : ¬ (n : Int) = (l : Int) := by omega
              have HRS := Lib.hid (show rootF idx (size - 1) leaf path = rootF (n / 2) (l / 2) (shaL (1 :: (H ++ p))) (path.drop (k + 1)) by rw [HRT.out, rootF, if_neg hz, if_neg hside])
              obtain ⟨N, hN⟩ : ∃ N, shaL (1 :: (H ++ p)) = N := ⟨_, rfl⟩
              rw [hN] at HRS
              have HNL := Lib.hid (show N.length = 32 by rw [← hN]; exact shaL_len _)
              have HND := Lib.hid (by
                have h := node_any H p HB11.out.2 HPL.out wB (HF.out.below HBB.out).tab (HF.out.below HBB.out).lt
                rw [hN] at h
                exact h)
              clear hN a1 hside hz
              go_wp2_with (first | (refine wpList_ldH (by rfl) (.tmp 13) (by rfl) (by rfl) HB13.out ?_) | (refine wpList_ldH (by rfl) (.tmp 11) (by rfl) (by rfl) HB11.out ?_) | (go_at_call 27; refine HND.out.mono ?_))
              first
                | rintro x wC rfl hbC
                | rintro x wC ⟨rfl, hbC⟩
              have HC11 := Lib.hid (HB11.out.below hbC)
              have HC8 := Lib.hid (HB8.out.below hbC)
              have HCB := Lib.hid (HBB.out.trans (hbC.mono HBB.out.size))
              clear hbC
              go_wp2_with (refine wpList_stH (by rfl) (.tmp 11) (.tmp 55) (by rfl) (by rfl) (by rfl) HC11.out HNL.out ?_)
              have HD11 := Lib.hid (HC11.out.set HNL.out)
              have HD8 := Lib.hid (HC8.out.other (k := g11) (Lib.byteCells N).toArray (by have := HG8.out; omega))
              have HDB := Lib.hid (below_setRow HCB.out (show w.heap.size ≤ g11 by have := HG8.out; omega) (Lib.byteCells N).toArray)
              generalize wC.setRow g11 (Lib.byteCells N).toArray = wD at *
              go_wp2_with fail
              exact ⟨⟨k + 1, n / 2, l / 2, N, HLT.out, by go_num, by go_num, by go_num, by have := HNN.out; omega, by have := HLN.out; omega, HRS.out, HD11.out, HD8.out, HDB.out⟩, by have := HLT.out; simp [intOf]; omega⟩
        · obtain rfl : k = path.length := by omega
          have i3 : ¬ (path.length : Int) < (path.length : Int) := by omega
          rw [List.drop_of_length_le (Nat.le_refl _)] at hrt
          by_cases hz : l = 0
          · subst hz
            have HEV := Lib.hid (show rootE idx size leaf path = 0 by rw [HE.out, hrt, rootF, if_pos rfl]; rfl)
            have HRV := Lib.hid (show rootF idx (size - 1) leaf path = some H by rw [hrt, rootF, if_pos rfl])
            clear hrt h11 h8 hbel hn hll hlt
            go_wp2_with (first | (refine wpList_ldH (by rfl) (.tmp 11) (by rfl) (by rfl) HA11.out ?_) | (refine wpList_stH (by rfl) (.tmp 8) (.tmp 65) (by rfl) (by rfl) (by rfl) HA8.out HA11.out.2 ?_))
            have HD8 := Lib.hid (HA8.out.set HA11.out.2)
            have HDB := Lib.hid (below_setRow HAB.out (Nat.le_succ _) (Lib.byteCells H).toArray)
            generalize wA.setRow (w.heap.size + 1) (Lib.byteCells H).toArray = wD at *
            go_wp2_with fail
            exact bodyPost_ret (results_Ht rfl rfl _ _ _ _ _ rfl rfl HD8.out) rfl ⟨⟨H, HA11.out.2, by rw [HEV.out]; rfl, fun _ => HRV.out⟩, HDB.out⟩
          · have j1 : ¬ (l : Int) = 0 := by omega
            have HEV := Lib.hid (show rootE idx size leaf path = 10 by rw [HE.out, hrt, rootF, if_neg hz]; rfl)
            clear hrt h11 h8 hbel hn hll hlt hz
            go_upto_region 17 with fail
            have ge := (HF.out.below HAB.out).var 10 (by omega) (by omega)
            have hdr : Below wA.heap.size wA wA.drew := (Below.refl _ _).drew
            have HR0 := Lib.hid (show Below w.heap.size w wA.drew ∧ (wA.drew).cell? ⟨errG 10, 0, none⟩ = some (errV S 10) ∧ (wA.drew).there (w.heap.size + 1) 0 32 from ⟨HAB.out.trans (hdr.mono HAB.out.size), below_cell hdr ge, (HA8.out.below hdr).there⟩)
            have HR1 := Lib.hid (show Below w.heap.size w (wA.drew.setCells (w.heap.size + 1) 0 (Lib.byteCells z32)) ∧ ((wA.drew.setCells (w.heap.size + 1) 0 (Lib.byteCells z32))).cell? ⟨errG 10, 0, none⟩ = some (errV S 10) ∧ ((wA.drew.setCells (w.heap.size + 1) 0 (Lib.byteCells z32))).there (w.heap.size + 1) 0 32 from
              ⟨below_setCellsN (show w.heap.size ≤ w.heap.size + 1 by omega) _ _ _ (HAB.out.trans (hdr.mono HAB.out.size)), (World.cell?_of_block (w := wA.drew) (setCells_other (Lib.byteCells z32) 0 wA.drew (w.heap.size + 1) _ (show errG 10 ≠ w.heap.size + 1 by have := HL10.out; omega))).trans (below_cell hdr ge), World.there_setCells (HA8.out.below hdr).there _ _ _⟩)
            have HRZ := Lib.hid (show HashAt (wA.drew.setCells (w.heap.size + 1) 0 (Lib.byteCells z32)) (w.heap.size + 1) z32 by
              rw [(HA8.out.below hdr).setCells HZS.out]
              exact (HA8.out.below hdr).set HZS.out)
            have hund := Tryz.underlying23
            have hinf : (Tryz.prog.info? 23).map (fun x => x.size) = some (Lib.byteCells z32).length := by rw [Lib.byteCells_length, HZS.out]; exact hashInfo
            have hl32 : (Lib.byteCells z32).length = 32 := by rw [Lib.byteCells_length, HZS.out]
            have hone := cells_oneC z32
            clear ge hdr
            simp only [errG, errV] at HR0 HR1
            go_region_held3 (fun W' => Below w.heap.size w W' ∧ W'.cell? ⟨11, 0, none⟩ = some (.iface 251 (.pointer (some (S 10)))) ∧ W'.there (w.heap.size + 1) 0 32)
              (first | (with_reducible exact HR0.out) | (with_reducible exact HR1.out))
              (fail)
            generalize wA.drew.setCells (w.heap.size + 1) 0 (Lib.byteCells z32) = wZ at *
            go_wp2_with fail
            exact bodyPost_ret (results_Ht rfl rfl _ _ _ _ _ rfl rfl HRZ.out) rfl ⟨⟨z32, HZS.out, by rw [HEV.out]; rfl, fun h => by rw [HEV.out] at h; cases h⟩, HR1.out.1⟩
end Go.Proofs.YticlgcfodlcpcaaGreatDoor

namespace Go.Proofs.YticlgcfodlcpcaaGreatDoor
open Go.RowKit

/-- What Inclusion answers. -/
def inclE (idx size : Nat) (leaf : List UInt8) (path : List (List UInt8)) (root : List UInt8) : Nat := if rootE idx size leaf path = 0 then (if rootF idx (size - 1) leaf path = some root then 0 else 10) else rootE idx size leaf path
theorem run_err_neq (a : Addr) (w : World) : (binOp .neq 34 (.iface 251 (.pointer (some a))) .nilIface).run Tryz.prog w = .ok (.bool true) w := by kernel_rfl
set_option maxHeartbeats 4000000 in
set_option maxRecDepth 100000 in
theorem inclusion_any (S : Nat → Addr) (idx size : Nat) (hi : idx < 18446744073709551616) (hs : size < 18446744073709551616) (leaf root : List UInt8) (hl : leaf.length = 32) (hr : root.length = 32) (path : List (List UInt8)) (u : Value) (hp : path.length ≤ 140737488355328) (w : World) (hF : FW S w) (hu : HsIn w u path) :
    Calls Tryz.prog 54 #[.int .u64 (idx : Int), .int .u64 (size : Int), hv leaf, u, hv root] w fun x w' => x = .returned (errN S (inclE idx size leaf path root)) ∧ Below w.heap.size w w' := by
  obtain ⟨z32, hz32, hzs⟩ := z32_ex2
  have HLL := Lib.hid hl
  have HRL := Lib.hid hr
  have HZS := Lib.hid hzs
  have HF := Lib.hid hF
  have HU := Lib.hid hu
  obtain ⟨_, ao, cap, rfl, _, _⟩ := hu
  clear hF hl hr hzs
  go_enter Tryz.func54, Tryz.ntmps54
  go_upto_region 1 with fail
  have h7 := HashAt.new w leaf HLL.out
  have hb7 := below_one w (.cells (Lib.byteCells leaf).toArray 23)
  have hs7 : (w.alloc (.cells (Lib.byteCells leaf).toArray 23)).heap.size = w.heap.size + 1 := by simp
  generalize w.alloc (.cells (Lib.byteCells leaf).toArray 23) = w7 at *
  have h9 := HashAt.new w7 root HRL.out
  have hb9 := below_one w7 (.cells (Lib.byteCells root).toArray 23)
  rw [hs7] at h9
  have H7 := Lib.hid (h7.below hb9)
  have H9 := Lib.hid h9
  have HBO := Lib.hid (hb7.trans (hb9.mono hb7.size))
  generalize w7.alloc (.cells (Lib.byteCells root).toArray 23) = wo at *
  have HRT := Lib.hid (vroot_any S idx size hi hs leaf HLL.out path _ hp wo (HF.out.below HBO.out) (HU.out.below HBO.out))
  clear h7 hb7 hs7 h9 hb9
  go_wp2_with (first | (refine wpList_ldH (by rfl) (.tmp 7) (by rfl) (by rfl) H7.out ?_) | (go_at_call 95; refine HRT.out.mono ?_))
  rintro x w1 ⟨⟨T, hT, rfl, hTV⟩, hb1⟩
  have HTL := Lib.hid hT
  have HTV := Lib.hid hTV
  have H9 := Lib.hid (H9.out.below hb1)
  have HB1 := Lib.hid (HBO.out.trans (hb1.mono HBO.out.size))
  have g10 := (HF.out.below HB1.out).var 10 (by omega) (by omega)
  simp only [errG, errV] at g10
  clear hb1 hT hTV HRT
  obtain ⟨n, hn⟩ : ∃ n, rootE idx size leaf path = n := ⟨_, rfl⟩
  have HIE := Lib.hid (show inclE idx size leaf path root = if n = 0 then (if rootF idx (size - 1) leaf path = some root then 0 else 10) else n by rw [inclE, hn])
  rw [hn] at HTV ⊢
  by_cases hz : n = 0
  · subst hz
    have HTE := Lib.hid (HTV.out rfl)
    have HE0 := Lib.hid (show errN S 0 = .nilIface from rfl)
    rw [HE0.out]
    clear hn
    go_upto_region 4 with (refine wpList_hash (by rfl) (.tmp 11) (.tmp 19) (by rfl) (by rfl) (by rfl) (hash_size HTL.out) (hash_size HZS.out) (byteCells_all T) ?_)
    have h11 := HashAt.new w1 T HTL.out
    have hb2 := below_one w1 (.cells (Lib.byteCells T).toArray 23)
    have H11 := Lib.hid h11
    have H9 := Lib.hid (H9.out.below hb2)
    have HB2 := Lib.hid (HB1.out.trans (hb2.mono HB1.out.size))
    have g10 := below_cell hb2 g10
    generalize w1.alloc (.cells (Lib.byteCells T).toArray 23) = w2 at *
    generalize w1.heap.size = g11 at *
    clear h11 hb2
    by_cases hTR : T = root
    · have HP := Lib.hid (show inclE idx size leaf path root = 0 by rw [HIE.out, HTE.out, hTR]; simp)
      have HD := Lib.hid (show false = decide (T ≠ root) by simp [hTR])
      clear hTR
      go_wp2_with (first | (refine wpList_ldH (by rfl) (.tmp 11) (by rfl) (by rfl) H11.out ?_) | (refine wpList_ldH (by rfl) (.tmp 9) (by rfl) (by rfl) H9.out ?_) | (refine wpList_hashNe (by rfl) (.tmp 24) (.tmp 25) _ (by rfl) T root (by rfl) (by rfl) HTL.out HRL.out false HD.out ?_))
      go_ret
      exact ⟨by rw [HP.out]; rfl, HB2.out⟩
    · have HP := Lib.hid (show inclE idx size leaf path root = 10 by rw [HIE.out, HTE.out]; simp [hTR])
      have HD := Lib.hid (show true = decide (T ≠ root) from (decide_eq_true hTR).symm)
      clear hTR
      go_wp2_with (first | (refine wpList_ldH (by rfl) (.tmp 11) (by rfl) (by rfl) H11.out ?_) | (refine wpList_ldH (by rfl) (.tmp 9) (by rfl) (by rfl) H9.out ?_) | (refine wpList_hashNe (by rfl) (.tmp 24) (.tmp 25) _ (by rfl) T root (by rfl) (by rfl) HTL.out HRL.out true HD.out ?_))
      go_ret
      exact ⟨by rw [HP.out]; rfl, HB2.out⟩
  · have HP := Lib.hid (show inclE idx size leaf path root = n by rw [HIE.out, if_neg hz])
    have HEN := Lib.hid (show errN S n = .iface 251 (.pointer (some (S n))) by unfold errN errV; rw [if_neg hz])
    have hre := fun w => run_err_neq (S n) w
    rw [HEN.out]
    clear hn hz
    go_upto_region 2 with (refine wpList_hash (by rfl) (.tmp 11) (.tmp 19) (by rfl) (by rfl) (by rfl) (hash_size HTL.out) (hash_size HZS.out) (byteCells_all T) ?_)
    have hb2 := below_one w1 (.cells (Lib.byteCells T).toArray 23)
    have HB2 := Lib.hid (HB1.out.trans (hb2.mono HB1.out.size))
    generalize w1.alloc (.cells (Lib.byteCells T).toArray 23) = w2 at *
    clear hb2
    go_wp2_with fail
    go_ret
    exact ⟨by rw [HP.out, HEN.out]; rfl, HB2.out⟩
end Go.Proofs.YticlgcfodlcpcaaGreatDoor
