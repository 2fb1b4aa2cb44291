/-
  Layer 21, plain: what is told is read as it was; what is read is told as it was read.
-/
import Derived.Test.YtjmgkallgflcdaaGreatDoorCkFmt
import Derived.Test.YtjmgkallgflcdaaGreatDoorCkWrongP
import Derived.Test.YtjmgkallgflcdaaGreatDoorBackP
import Derived.Test.YtjmgkallgflcdaaGreatDoorNumP
namespace Go.Proofs.YtjmgkallgflcdaaGreatDoor
open Go.RowKit

theorem plain_no10 {l : List UInt8} (h : plainOf l = true) : ∀ x ∈ l, x ≠ 10 := by
  intro x hx e
  subst e
  obtain ⟨a, b, rfl⟩ := List.append_of_mem hx
  rw [plain_mid (c := 10) (by decide) (by decide) a b] at h
  cases h
theorem digits_no10 (u : Nat) : ∀ x ∈ Lib.decDigits u, x ≠ 10 := by
  induction u using Nat.strongRecOn with
  | ind u ih =>
    by_cases h : u < 10
    · rw [Lib.decDigits_one h]
      intro x hx e
      rw [List.mem_singleton.1 hx] at e
      have h2 := ofNat48 u h
      rw [e] at h2
      have h3 : (10 : UInt8).toNat = 10 := rfl
      omega
    · rw [decDigits_snoc h]
      intro x hx
      rcases List.mem_append.1 hx with hx | hx
      · exact ih (u / 10) (by omega) x hx
      · intro e
        rw [List.mem_singleton.1 hx] at e
        have h2 := ofNat48 (u % 10) (by omega)
        rw [e] at h2
        have h3 : (10 : UInt8).toNat = 10 := rfl
        omega
theorem L64_no10_fin : ∀ i : Fin 64, L64 i.val ≠ 10 := by decide +kernel
theorem L64_no10 (i : Nat) : L64 i ≠ 10 := by
  by_cases h : i < 64
  · exact L64_no10_fin ⟨i, h⟩
  · unfold L64
    rw [List.getD_eq_getElem?_getD, List.getElem?_eq_none (by simpa [lettersL] using h)]
    decide
theorem b64_no10 : ∀ l : List UInt8, ∀ x ∈ b64 l, x ≠ 10
  | [] => by simp [b64]
  | [a] => by
    intro x hx
    simp only [b64, List.mem_cons, List.not_mem_nil, or_false] at hx
    rcases hx with rfl | rfl | rfl | rfl
    all_goals first | exact L64_no10 _ | decide
  | [a, b] => by
    intro x hx
    simp only [b64, List.mem_cons, List.not_mem_nil, or_false] at hx
    rcases hx with rfl | rfl | rfl | rfl
    all_goals first | exact L64_no10 _ | decide
  | a :: b :: c :: r => by
    intro x hx
    simp only [b64, List.mem_cons] at hx
    rcases hx with rfl | rfl | rfl | rfl | hx
    · exact L64_no10 _
    · exact L64_no10 _
    · exact L64_no10 _
    · exact L64_no10 _
    · exact b64_no10 r x hx
theorem join_fed : ∀ (r : List (List UInt8)) (x : List UInt8), Lib.join (x :: r) [10] ++ [10] = fed (x :: r)
  | [], x => by
    rw [Lib.join_cons]
    simp [Lib.joinTail, fed]
  | y :: r, x => by
    rw [fed_cons, ← join_fed r y, Lib.join_cons, Lib.join_cons]
    simp [Lib.joinTail]
theorem steps_extra : ∀ (L : List (List UInt8)) (k : Nat) (st : CkSt), L.all extraB = true → 3 ≤ k → k + L.length ≤ 19 → ckSteps k st L = some (st.1, st.2.1, st.2.2.1, st.2.2.2 ++ L)
  | [], k, st, _, _, _ => by simp [ckSteps]
  | l :: r, k, st, h, h3, hk => by
    rw [List.all_cons, Bool.and_eq_true] at h
    have h1 : l ≠ [] ∧ plainOf l = true := by simpa [extraB] using h.1
    rw [List.length_cons] at hk
    have h2 : ckStep k l st = some (st.1, st.2.1, st.2.2.1, st.2.2.2 ++ [l]) := by
      unfold ckStep
      rw [if_neg (by omega), if_neg (by omega), if_neg (by omega), if_pos ⟨h1.1, h1.2, by omega⟩]
    unfold ckSteps
    rw [h2]
    simp only []
    rw [steps_extra r (k + 1) _ h.2 (by omega) (by omega)]
    simp
theorem steps_back : ∀ (L : List (List UInt8)) (k : Nat) (st st' : CkSt), 3 ≤ k → ckSteps k st L = some st' → st' = (st.1, st.2.1, st.2.2.1, st.2.2.2 ++ L) ∧ L.all extraB = true
  | [], k, st, st', _, h => by
    obtain rfl : st = st' := Option.some.inj h
    simp
  | l :: r, k, st, st', h3, h => by
    unfold ckSteps at h
    cases hs : ckStep k l st with
    | none => rw [hs] at h; cases h
    | some s1 =>
      rw [hs] at h
      simp only [] at h
      obtain ⟨e1, e2⟩ := steps_back r (k + 1) s1 st' (by omega) h
      unfold ckStep at hs
      rw [if_neg (by omega), if_neg (by omega), if_neg (by omega)] at hs
      split at hs
      · rename_i hc
        obtain rfl := Option.some.inj hs
        refine ⟨by rw [e1]; simp, ?_⟩
        rw [List.all_cons, e2, Bool.and_true]
        simp [extraB, hc.1, hc.2.1]
      · cases hs
/-- What may be told. -/
def mayCk (st : CkSt) : Bool := nameOf st.1 && st.2.2.2.all extraB
theorem fmt_not {st : CkSt} (h : mayCk st = false) : fmtCk st = ([], 2) := by
  unfold fmtCk mayCk at *
  cases h1 : nameOf st.1 with
  | false => rw [if_neg (by simp)]
  | true =>
    rw [h1, Bool.true_and] at h
    rw [if_pos rfl, if_neg (by rw [h]; simp)]
theorem fmt_big {st : CkSt} (h : mayCk st = true) (hb : 1048576 < st.2.1 ∨ 16 < st.2.2.2.length) : fmtCk st = ([], 4) := by
  unfold fmtCk mayCk at *
  rw [Bool.and_eq_true] at h
  rw [if_pos h.1, if_pos h.2, if_pos hb]
theorem fmt_ok {st : CkSt} (h : mayCk st = true) (hb : ¬ (1048576 < st.2.1 ∨ 16 < st.2.2.2.length)) : fmtCk st = (ckText st, 0) := by
  unfold fmtCk mayCk at *
  rw [Bool.and_eq_true] at h
  rw [if_pos h.1, if_pos h.2, if_neg hb]
theorem text_len {st : CkSt} (h : mayCk st = true) (hb : ¬ (1048576 < st.2.1 ∨ 16 < st.2.2.2.length)) (h32 : st.2.2.1.length = 32) : (ckText st).length ≤ 70001 := by
  unfold mayCk at h
  rw [Bool.and_eq_true] at h
  unfold ckText
  rw [List.length_append]
  have := ckText_bound (z := st.2.1) h.1 (by omega) h32 h.2 (by omega)
  simp only [List.length_cons, List.length_nil]
  omega
/-- What is told is read as it was. -/
theorem text_parse {st : CkSt} (h : mayCk st = true) (hb : ¬ (1048576 < st.2.1 ∨ 16 < st.2.2.2.length)) (h32 : st.2.2.1.length = 32) : parseCk (ckText st) = (st, 0, none) := by
  have hlen := text_len h hb h32
  refine parseCk_ok (by omega) ?_
  obtain ⟨o, z, r, L⟩ := st
  unfold mayCk at h
  rw [Bool.and_eq_true] at h
  simp only [] at h hb h32
  have hno : ∀ l ∈ o :: Lib.decDigits z :: b64 r :: L, ∀ x ∈ l, x ≠ 10 := by
    intro l hl
    rcases List.mem_cons.1 hl with rfl | hl
    · exact plain_no10 (name_plain h.1)
    · rcases List.mem_cons.1 hl with rfl | hl
      · exact digits_no10 z
      · rcases List.mem_cons.1 hl with rfl | hl
        · exact b64_no10 r
        · have := List.all_eq_true.1 h.2 l hl
          unfold extraB at this
          rw [Bool.and_eq_true] at this
          exact plain_no10 this.2
  have hs : ckSteps 0 st0 (o :: Lib.decDigits z :: b64 r :: L) = some (o, z, r, L) := by
    have e0 : ckStep 0 o st0 = some (o, st0.2) := by
      unfold ckStep; rw [if_pos rfl, if_pos h.1]
    have e1 : ∀ st : CkSt, ckStep 1 (Lib.decDigits z) st = some (st.1, z, st.2.2) := fun st => by
      unfold ckStep; rw [if_neg (by decide), if_pos rfl, fromDec_digits z (by omega), if_pos ⟨rfl, by simp only []; omega⟩]
    have e2 : ∀ st : CkSt, ckStep 2 (b64 r) st = some (st.1, st.2.1, r, st.2.2.2) := fun st => by
      unfold ckStep; rw [if_neg (by decide), if_neg (by decide), if_pos rfl, fromB64_b64 r (by rw [h32]; decide), if_pos ⟨rfl, h32⟩]
    unfold ckSteps
    rw [e0]
    simp only []
    unfold ckSteps
    rw [e1]
    simp only []
    unfold ckSteps
    rw [e2]
    simp only []
    rw [steps_extra L 3 _ h.2 (by omega) (by omega)]
    simp [st0]
  have hr := ckRun_steps _ 0 st0 [] hno _ hs
  rw [List.append_nil] at hr
  have ht : ckText (o, z, r, L) = fed (o :: Lib.decDigits z :: b64 r :: L) := join_fed _ _
  rw [ht, hr]
  unfold ckRun
  rw [if_neg (by simp)]
/-- What is read is told as it was read. -/
theorem parse_text {l : List UInt8} {st : CkSt} {p : Option Int} (h : parseCk l = (st, 0, p)) : fmtCk st = (l, 0) ∧ mayCk st = true ∧ st.2.1 ≤ 1048576 ∧ st.2.2.2.length ≤ 16 ∧ st.2.2.1.length = 32 := by
  have hlen : ¬ 1048576 < l.length := by
    intro hb
    unfold parseCk at h
    rw [if_pos hb] at h
    cases h
  unfold parseCk at h
  rw [if_neg hlen] at h
  cases hr : ckRun 0 st0 [] l with
  | error n => rw [hr] at h; cases h
  | ok s1 =>
    rw [hr] at h
    obtain rfl : s1 = st := congrArg Prod.fst h
    obtain ⟨ls, e1, _, e4, e5⟩ := ckRun_ok l [] 0 st0 s1 (by simp) hr
    rw [List.nil_append] at e1
    have h19 := ckSteps_le ls 0 st0 s1 e4 (by omega)
    match ls, e5 with
    | o :: d :: r :: L, _ =>
      unfold ckSteps at e4
      cases s0 : ckStep 0 o st0 with
      | none => rw [s0] at e4; cases e4
      | some a0 =>
        rw [s0] at e4
        simp only [] at e4
        unfold ckSteps at e4
        cases s1' : ckStep 1 d a0 with
        | none => rw [s1'] at e4; cases e4
        | some a1 =>
          rw [s1'] at e4
          simp only [] at e4
          unfold ckSteps at e4
          cases s2 : ckStep 2 r a1 with
          | none => rw [s2] at e4; cases e4
          | some a2 =>
            rw [s2] at e4
            simp only [] at e4
            obtain ⟨f1, f2⟩ := steps_back L 3 a2 s1 (by omega) e4
            unfold ckStep at s0 s1' s2
            rw [if_pos rfl] at s0
            rw [if_neg (by decide), if_pos rfl] at s1'
            rw [if_neg (by decide), if_neg (by decide), if_pos rfl] at s2
            split at s0
            · rename_i c0
              split at s1'
              · rename_i c1
                split at s2
                · rename_i c2
                  obtain rfl := Option.some.inj s0
                  obtain rfl := Option.some.inj s1'
                  obtain rfl := Option.some.inj s2
                  have hd := fromDec_back d (fromDec d).1 (fromDec d).2.2 (by rw [← c1.1])
                  have hb := fromB64_back r (fromB64 r).1 (fromB64 r).2.2 (by rw [← c2.1])
                  simp only [st0, List.nil_append] at f1
                  have hm : mayCk s1 = true := by
                    rw [f1]
                    simp [mayCk, c0, f2]
                  simp only [List.length_cons] at h19
                  have hq1 : s1.2.1 ≤ 1048576 := by rw [f1]; exact c1.2
                  have hq2 : s1.2.2.2.length ≤ 16 := by rw [f1]; simp only []; omega
                  have hq3 : s1.2.2.1.length = 32 := by rw [f1]; exact c2.2
                  refine ⟨?_, hm, hq1, hq2, hq3⟩
                  rw [fmt_ok hm (by omega)]
                  have ht : ckText s1 = l := by
                    rw [f1, e1]
                    unfold ckText
                    simp only []
                    rw [hd, hb]
                    exact join_fed _ _
                  rw [ht]
                · cases s2
              · cases s1'
            · cases s0
    | [], h => simp at h
    | [_], h => simp at h
    | [_, _], h => simp at h
end Go.Proofs.YtjmgkallgflcdaaGreatDoor
