/-
  Layer 21, plain: a text that is no checkpoint's goes wrong at a line.
-/
import Derived.Test.YtjmgkallgflcdaaGreatDoorCkP
namespace Go.Proofs.YtjmgkallgflcdaaGreatDoor
open Go.RowKit

/-- The lines, a line feed behind each. -/
def fed (ls : List (List UInt8)) : List UInt8 := (ls.map (· ++ [10])).flatten
theorem fed_nil : fed [] = [] := rfl
theorem fed_cons (l : List UInt8) (r : List (List UInt8)) : fed (l :: r) = l ++ 10 :: fed r := by simp [fed]
theorem fed_app (a b : List (List UInt8)) : fed (a ++ b) = fed a ++ fed b := by simp [fed]
def ckSteps : Nat → CkSt → List (List UInt8) → Option CkSt
  | _, st, [] => some st
  | k, st, l :: r => match ckStep k l st with
    | none => none
    | some st' => ckSteps (k + 1) st' r
theorem ckSteps_app : ∀ (a b : List (List UInt8)) (k : Nat) (st st' : CkSt), ckSteps k st a = some st' → ckSteps k st (a ++ b) = ckSteps (k + a.length) st' b
  | [], b, k, st, st', h => by
    obtain rfl : st = st' := Option.some.inj h
    rfl
  | l :: r, b, k, st, st', h => by
    rw [List.cons_append]
    unfold ckSteps at h
    cases hs : ckStep k l st with
    | none => rw [hs] at h; cases h
    | some s1 =>
      rw [hs] at h
      simp only [] at h
      conv => lhs; unfold ckSteps
      rw [hs]
      simp only []
      rw [ckSteps_app r b (k + 1) s1 st' h, List.length_cons, show k + 1 + r.length = k + (r.length + 1) by omega]
theorem ckRun_steps : ∀ (ls : List (List UInt8)) (k : Nat) (st : CkSt) (m : List UInt8), (∀ l ∈ ls, ∀ x ∈ l, x ≠ 10) → ∀ st', ckSteps k st ls = some st' → ckRun k st [] (fed ls ++ m) = ckRun (k + ls.length) st' [] m
  | [], k, st, m, _, st', h => by
    obtain rfl : st = st' := Option.some.inj h
    rfl
  | l :: r, k, st, m, hn, st', h => by
    unfold ckSteps at h
    cases hs : ckStep k l st with
    | none => rw [hs] at h; cases h
    | some s1 =>
      rw [hs] at h
      simp only [] at h
      rw [fed_cons, List.append_assoc, List.cons_append, ckRun_skip k st l _ [] (hn l (List.mem_cons_self ..)), List.nil_append, ckRun_line, hs]
      simp only []
      rw [ckRun_steps r (k + 1) s1 m (fun x hx => hn x (List.mem_cons_of_mem _ hx)) st' h, List.length_cons, show k + 1 + r.length = k + (r.length + 1) by omega]
theorem ckRun_err : ∀ (l acc : List UInt8) (k : Nat) (st : CkSt) (n : Nat), (∀ x ∈ acc, x ≠ 10) → ckRun k st acc l = .error n →
    ∃ (ls : List (List UInt8)) (b t : List UInt8) (st' : CkSt), acc ++ l = fed ls ++ (b ++ t) ∧ (∀ y ∈ ls, ∀ x ∈ y, x ≠ 10) ∧ (∀ x ∈ b, x ≠ 10) ∧ ckSteps k st ls = some st' ∧ n = k + ls.length ∧
      (t = [] ∨ ∃ r, t = 10 :: r ∧ ckStep n b st' = none)
  | [], acc, k, st, n, ha, h => by
    unfold ckRun at h
    split at h
    · injection h with h
      subst h
      exact ⟨[], acc, [], st, by simp [fed], by simp, ha, rfl, rfl, .inl rfl⟩
    · cases h
  | c :: r, acc, k, st, n, ha, h => by
    by_cases hc : c = 10
    · subst hc
      rw [ckRun_line] at h
      cases hs : ckStep k acc st with
      | none =>
        rw [hs] at h
        injection h with h
        subst h
        exact ⟨[], acc, 10 :: r, st, by simp [fed], by simp, ha, rfl, rfl, .inr ⟨r, rfl, hs⟩⟩
      | some s1 =>
        rw [hs] at h
        simp only [] at h
        obtain ⟨ls, b, t, st', e1, e2, e3, e4, e5, e6⟩ := ckRun_err r [] (k + 1) s1 n (by simp) h
        refine ⟨acc :: ls, b, t, st', ?_, ?_, e3, ?_, ?_, e6⟩
        · rw [List.nil_append] at e1
          rw [e1, fed_cons]
          simp
        · intro y hy
          rcases List.mem_cons.1 hy with rfl | hy
          · exact ha
          · exact e2 y hy
        · unfold ckSteps
          rw [hs]
          exact e4
        · rw [e5, List.length_cons]; omega
    · have h2 : ckRun k st (acc ++ [c]) r = .error n := by
        rw [← h]
        conv => rhs; unfold ckRun
        rw [if_neg hc]
      obtain ⟨ls, b, t, st', e1, e⟩ := ckRun_err r (acc ++ [c]) k st n (by
        intro x hx
        rcases List.mem_append.1 hx with hx | hx
        · exact ha x hx
        · rw [List.mem_singleton.1 hx]; exact hc) h2
      exact ⟨ls, b, t, st', by rw [← e1]; simp, e⟩
theorem ckRun_ok : ∀ (l acc : List UInt8) (k : Nat) (st st' : CkSt), (∀ x ∈ acc, x ≠ 10) → ckRun k st acc l = .ok st' →
    ∃ ls : List (List UInt8), acc ++ l = fed ls ∧ (∀ y ∈ ls, ∀ x ∈ y, x ≠ 10) ∧ ckSteps k st ls = some st' ∧ 3 ≤ k + ls.length
  | [], acc, k, st, st', ha, h => by
    unfold ckRun at h
    split at h
    · cases h
    · rename_i hc
      injection h with h
      subst h
      have h1 : acc = [] := Decidable.byContradiction fun e => hc (.inr e)
      have h2 : ¬ k < 3 := fun e => hc (.inl e)
      subst h1
      exact ⟨[], rfl, by simp, rfl, by simp; omega⟩
  | c :: r, acc, k, st, st', ha, h => by
    by_cases hc : c = 10
    · subst hc
      rw [ckRun_line] at h
      cases hs : ckStep k acc st with
      | none =>
        rw [hs] at h
        cases h
      | some s1 =>
        rw [hs] at h
        simp only [] at h
        obtain ⟨ls, e1, e2, e4, e5⟩ := ckRun_ok r [] (k + 1) s1 st' (by simp) h
        refine ⟨acc :: ls, ?_, ?_, ?_, ?_⟩
        · rw [List.nil_append] at e1
          rw [e1, fed_cons]
        · intro y hy
          rcases List.mem_cons.1 hy with rfl | hy
          · exact ha
          · exact e2 y hy
        · unfold ckSteps
          rw [hs]
          exact e4
        · rw [List.length_cons]; omega
    · have h2 : ckRun k st (acc ++ [c]) r = .ok st' := by
        rw [← h]
        conv => rhs; unfold ckRun
        rw [if_neg hc]
      obtain ⟨ls, e1, e⟩ := ckRun_ok r (acc ++ [c]) k st st' (by
        intro x hx
        rcases List.mem_append.1 hx with hx | hx
        · exact ha x hx
        · rw [List.mem_singleton.1 hx]; exact hc) h2
      exact ⟨ls, by rw [← e1]; simp, e⟩
theorem ckStep_lt {k : Nat} {l : List UInt8} {st st' : CkSt} (h : ckStep k l st = some st') : k < 19 := by
  unfold ckStep at h
  repeat' split at h
  all_goals cases h
  · omega
  · omega
  · omega
  · rename_i h
    exact h.2.2
theorem ckSteps_le : ∀ (ls : List (List UInt8)) (k : Nat) (st st' : CkSt), ckSteps k st ls = some st' → k ≤ 19 → k + ls.length ≤ 19
  | [], k, st, st', _, hk => by simpa using hk
  | l :: r, k, st, st', h, _ => by
    unfold ckSteps at h
    cases hs : ckStep k l st with
    | none => rw [hs] at h; cases h
    | some s1 =>
      rw [hs] at h
      have := ckSteps_le r (k + 1) s1 st' h (by have := ckStep_lt hs; omega)
      rw [List.length_cons]; omega

/-- The letters of 32 bytes 0. -/
def zerosL : List UInt8 := List.replicate 43 65 ++ [61]
/-- The three lines that are put behind. -/
def restL : List (List UInt8) := [[97], [53], zerosL]
set_option maxRecDepth 100000 in
theorem rest_0 : nameOf [97] = true := by decide
set_option maxRecDepth 100000 in
theorem rest_1 : fromDec [53] = (5, 0, none) := by decide
set_option maxRecDepth 100000 in
theorem rest_2 : (fromB64 zerosL) = (List.replicate 32 0, 0, none) := by decide
theorem step_0 (st : CkSt) : ckStep 0 [97] st = some ([97], st.2) := by
  unfold ckStep; rw [if_pos rfl, if_pos rest_0]
theorem step_1 (st : CkSt) : ckStep 1 [53] st = some (st.1, 5, st.2.2) := by
  unfold ckStep; rw [if_neg (by decide), if_pos rfl, rest_1, if_pos (by decide)]
theorem step_2 (st : CkSt) : ckStep 2 zerosL st = some (st.1, st.2.1, List.replicate 32 0, st.2.2.2) := by
  unfold ckStep; rw [if_neg (by decide), if_neg (by decide), if_pos rfl, rest_2, if_pos (by simp)]
theorem rest_steps (n : Nat) (st : CkSt) : ∃ st', ckSteps n st (restL.drop n) = some st' := by
  rcases (show n = 0 ∨ n = 1 ∨ n = 2 ∨ 3 ≤ n by omega) with rfl | rfl | rfl | h
  · refine ⟨([97], 5, List.replicate 32 0, st.2.2.2), ?_⟩
    simp only [restL, List.drop_zero, ckSteps, Nat.reduceAdd, step_0, step_1, step_2]
  · refine ⟨(st.1, 5, List.replicate 32 0, st.2.2.2), ?_⟩
    simp only [restL, List.drop_succ_cons, List.drop_zero, ckSteps, Nat.reduceAdd, step_1, step_2]
  · refine ⟨(st.1, st.2.1, List.replicate 32 0, st.2.2.2), ?_⟩
    simp only [restL, List.drop_succ_cons, List.drop_zero, ckSteps, step_2]
  · rw [List.drop_eq_nil_of_le (by simpa [restL] using h)]
    exact ⟨st, rfl⟩
theorem rest_no10 : ∀ l ∈ restL, ∀ x ∈ l, x ≠ 10 := by decide
theorem rest_len (n : Nat) : (fed (restL.drop n)).length ≤ 49 := by
  rcases (show n = 0 ∨ n = 1 ∨ n = 2 ∨ 3 ≤ n by omega) with rfl | rfl | rfl | h
  · decide
  · decide
  · decide
  · rw [List.drop_eq_nil_of_le (by simpa [restL] using h)]
    decide

theorem parseCk_ok {l : List UInt8} (h : l.length ≤ 1048576) {st : CkSt} (hr : ckRun 0 st0 [] l = .ok st) : parseCk l = (st, 0, none) := by
  unfold parseCk; rw [if_neg (by omega), hr]; rfl
theorem parseCk_bad {l : List UInt8} (h : l.length ≤ 1048576) {n : Nat} (hr : ckRun 0 st0 [] l = .error n) : parseCk l = (st0, 3, some (n : Int)) := by
  unfold parseCk; rw [if_neg (by omega), hr]; rfl

/-- A text that goes wrong. -/
theorem ck_wrong (l : List UInt8) (hl : l.length ≤ 900000) (hc : (parseCk l).2.1 ≠ 0) : ∃ (n : Nat) (ls : List (List UInt8)) (b t : List UInt8), n ≤ 19 ∧ parseCk l = (st0, 3, some (n : Int)) ∧ ls.length = n ∧
    l = fed ls ++ (b ++ t) ∧ (∀ y ∈ ls, ∀ x ∈ y, x ≠ 10) ∧ (∀ x ∈ b, x ≠ 10) ∧ (t = [] ∨ ∃ r, t = 10 :: r) ∧
    (∃ st, parseCk (fed ls ++ fed (restL.drop n)) = (st, 0, none)) ∧
    (t ≠ [] → ∀ m : List UInt8, m.length ≤ 900000 - l.length → parseCk (fed ls ++ (b ++ 10 :: m)) = (st0, 3, some (n : Int))) := by
  cases hr : ckRun 0 st0 [] l with
  | ok st => rw [parseCk_ok (by omega) hr] at hc; exact absurd rfl hc
  | error n =>
    obtain ⟨ls, b, t, st', e1, e2, e3, e4, e5, e6⟩ := ckRun_err l [] 0 st0 n (by simp) hr
    have h19 := ckSteps_le ls 0 st0 st' e4 (by omega)
    rw [List.nil_append] at e1
    have hfl : (fed ls).length ≤ l.length := by rw [e1]; simp
    refine ⟨n, ls, b, t, by omega, parseCk_bad (by omega) hr, by omega, e1, e2, e3, ?_, ?_, ?_⟩
    · rcases e6 with h | ⟨r, h, _⟩
      · exact .inl h
      · exact .inr ⟨r, h⟩
    · obtain ⟨st2, h2⟩ := rest_steps n st'
      refine ⟨st2, parseCk_ok (by rw [List.length_append]; have := rest_len n; omega) ?_⟩
      have hlen : n + (restL.drop n).length = max n 3 := by
        rw [List.length_drop]
        show n + (3 - n) = max n 3
        omega
      have h3 := ckRun_steps (restL.drop n) n st' [] (fun y hy => rest_no10 y (List.mem_of_mem_drop hy)) st2 h2
      rw [List.append_nil] at h3
      rw [ckRun_steps ls 0 st0 _ e2 st' e4, ← e5, h3, hlen]
      unfold ckRun
      rw [if_neg (by simp; omega)]
    · intro ht m hm
      obtain ⟨r, h, hs⟩ : ∃ r, t = 10 :: r ∧ ckStep n b st' = none := by
        rcases e6 with h | h
        · exact absurd h ht
        · exact h
      subst h
      refine parseCk_bad (by rw [e1] at hm hl; simp at hm hl ⊢; omega) ?_
      rw [ckRun_steps ls 0 st0 _ e2 st' e4, ← e5, ckRun_skip n st' b _ [] e3, List.nil_append, ckRun_line, hs]
end Go.Proofs.YtjmgkallgflcdaaGreatDoor
