/-
  Layer 3, plain: a text that is refused goes wrong where it is told.
-/
import Derived.Test.YtobnlnkmonaohaaDoorBackP
import Derived.Test.YtobnlnkmonaohaaDoorNumP
namespace Go.Proofs.YtobnlnkmonaohaaDoor
open Go.RowKit

/-! ### sixty-four letters -/
/-- What holds of the machine between two letters. -/
def InvB (i p : Nat) (d : Bool) : Prop := (d = true ∧ i % 4 = 0) ∨ (d = false ∧ p = 0) ∨ (d = false ∧ p = 1 ∧ i % 4 = 3)
theorem step_inv {i : Nat} {c : UInt8} {b p : Nat} {d : Bool} {out : List UInt8} {b' p' : Nat} {d' : Bool} {o' : List UInt8} (h : InvB i p d) (hs : stepB i c b p d out = some (b', p', d', o')) : InvB (i + 1) p' d' := by
  by_cases hb : badB i c p d
  · rw [stepB_none hb] at hs; cases hs
  · have hd : d = false := by
      cases d with
      | false => rfl
      | true => exact absurd (.inl rfl) hb
    subst hd
    by_cases hn : idx64 c < 0
    · have h2 : ¬ i % 4 < 2 := fun e => hb (.inr (.inr (.inr ⟨hn, e⟩)))
      by_cases hp : p = 0
      · subst hp
        by_cases h3 : i % 4 = 3
        · rw [stepB_pad3 hb hn h3] at hs
          split at hs
          · cases hs
          · injection hs with hs
            obtain ⟨rfl, rfl, rfl, rfl⟩ := by simpa using hs
            exact .inl ⟨rfl, by omega⟩
        · rw [stepB_pad2 hb hn h3] at hs
          split at hs
          · cases hs
          · injection hs with hs
            obtain ⟨rfl, rfl, rfl, rfl⟩ := by simpa using hs
            exact .inr (.inr ⟨rfl, rfl, by omega⟩)
      · rw [stepB_pads hb hn hp] at hs
        injection hs with hs
        obtain ⟨rfl, rfl, rfl, rfl⟩ := by simpa using hs
        rcases h with h | h | h
        · cases h.1
        · exact absurd h.2 hp
        · exact .inl ⟨by simp [h.2.2], by omega⟩
    · rw [stepB_let (N := (idx64 c).toNat) hb (by omega)] at hs
      injection hs with hs
      have hp : p = 0 := Classical.byContradiction fun e => hb (.inr (.inr (.inl ⟨by omega, by omega⟩)))
      injection hs with _ hs
      injection hs with hs1 hs
      injection hs with hs2 _
      exact .inr (.inl ⟨hs2.symm, by omega⟩)
def ends64L : List (List UInt8) := [[], [65], [61], [61, 61], [65, 65], [65, 65, 65], [65, 61], [65, 61, 61], [103, 61, 61], [73, 61], [119, 65, 61, 61], [65, 73, 61]]
theorem idx65 : idx64 65 = (0 : Nat) := by kernel_rfl
theorem run_A (i b : Nat) (out r : List UInt8) : ∃ b' o, runB i b 0 false out (65 :: r) = runB (i + 1) b' 0 false o r := by
  rw [runB_cons, stepB_let (N := 0) (by unfold badB; simp [idx65]) idx65]
  exact ⟨_, _, rfl⟩
theorem end_inv (i b p : Nat) (d : Bool) (out : List UInt8) (h : InvB i p d) : ∃ t ∈ ends64L, (∃ o, runB i b p d out t = .ok o) ∧ (i + t.length) % 4 = 0 := by
  rcases h with ⟨rfl, h⟩ | ⟨rfl, rfl⟩ | ⟨rfl, rfl, h⟩
  · exact ⟨[], by simp [ends64L], ⟨_, rfl⟩, h⟩
  · rcases (show i % 4 = 0 ∨ i % 4 = 1 ∨ i % 4 = 2 ∨ i % 4 = 3 by omega) with h | h | h | h
    · exact ⟨[], by simp [ends64L], ⟨_, rfl⟩, h⟩
    · obtain ⟨b1, o1, e1⟩ := run_A i b out [65, 65]
      obtain ⟨b2, o2, e2⟩ := run_A (i + 1) b1 o1 [65]
      obtain ⟨b3, o3, e3⟩ := run_A (i + 1 + 1) b2 o2 []
      exact ⟨[65, 65, 65], by simp [ends64L], ⟨_, by rw [e1, e2, e3]; rfl⟩, by simp; omega⟩
    · obtain ⟨b1, o1, e1⟩ := run_A i b out [65]
      obtain ⟨b2, o2, e2⟩ := run_A (i + 1) b1 o1 []
      exact ⟨[65, 65], by simp [ends64L], ⟨_, by rw [e1, e2]; rfl⟩, by simp; omega⟩
    · obtain ⟨b1, o1, e1⟩ := run_A i b out []
      exact ⟨[65], by simp [ends64L], ⟨_, by rw [e1]; rfl⟩, by simp; omega⟩
  · refine ⟨[61], by simp [ends64L], ⟨out, ?_⟩, by simp; omega⟩
    rw [runB_cons, stepB_pads (by unfold badB; simp [idx61]; omega) (by rw [idx61]; omega) (by omega)]
    rfl
theorem runB_ends : ∀ (l : List UInt8) (i b p : Nat) (d : Bool) (out : List UInt8) (o : List UInt8), InvB i p d → runB i b p d out l = .ok o → ∃ t ∈ ends64L, (∃ o', runB i b p d out (l ++ t) = .ok o') ∧ (i + l.length + t.length) % 4 = 0
  | [], i, b, p, d, out, o, h, _ => by simpa using end_inv i b p d out h
  | c :: r, i, b, p, d, out, o, h, hr => by
    rw [runB_cons] at hr
    cases hs : stepB i c b p d out with
    | none => rw [hs] at hr; cases hr
    | some q =>
      obtain ⟨b', p', d', o'⟩ := q
      rw [hs] at hr
      obtain ⟨t, ht, ⟨o2, ho⟩, hl⟩ := runB_ends r (i + 1) b' p' d' o' o (step_inv h hs) hr
      refine ⟨t, ht, ⟨o2, ?_⟩, by simp only [List.length_cons]; omega⟩
      rw [List.cons_append, runB_cons, hs]
      exact ho
theorem runB_pre : ∀ (l m : List UInt8) (i b p : Nat) (d : Bool) (out : List UInt8) (e : Nat), runB i b p d out l = .error e → ∃ k, e = i + k ∧ k < l.length ∧ runB i b p d out (l.take (k + 1) ++ m) = .error e ∧ ∃ o, runB i b p d out (l.take k) = .ok o
  | [], m, i, b, p, d, out, e, h => by cases h
  | c :: r, m, i, b, p, d, out, e, h => by
    rw [runB_cons] at h
    cases hs : stepB i c b p d out with
    | none =>
      rw [hs] at h
      injection h with h
      refine ⟨0, by omega, by simp, ?_, out, rfl⟩
      simp only [List.take_succ_cons, List.take_zero, List.cons_append]
      rw [runB_cons, hs, h]
    | some q =>
      obtain ⟨b', p', d', o'⟩ := q
      rw [hs] at h
      obtain ⟨k, hk, hl, hx, o, ho⟩ := runB_pre r m (i + 1) b' p' d' o' e h
      refine ⟨k + 1, by omega, by simp; omega, ?_, o, ?_⟩
      · simp only [List.take_succ_cons, List.cons_append]
        rw [runB_cons, hs]
        exact hx
      · simp only [List.take_succ_cons]
        rw [runB_cons, hs]
        exact ho
theorem fromB64_of_run (l : List UInt8) (h : l.length ≤ 1048576) : fromB64 l = toldAt [] (endB l.length (runB 0 0 0 false [] l)) := by
  unfold fromB64; rw [if_neg (by omega)]
/-- A text that is refused: where; an end that is read; the same place with more behind it. -/
theorem wrong64 (l : List UInt8) (h : l.length ≤ 60000) (hc : (fromB64 l).2.1 ≠ 0) : ∃ k, k ≤ l.length ∧ (fromB64 l).2 = (3, some (k : Int)) ∧ (∃ t ∈ ends64L, (fromB64 (l.take k ++ t)).2 = (0, none)) ∧
    (k < l.length → ∀ m : List UInt8, m.length ≤ 60000 → (fromB64 (l.take (k + 1) ++ m)).2 = (3, some (k : Int))) := by
  have h0 : InvB 0 0 false := .inr (.inl ⟨rfl, rfl⟩)
  have hts : ∀ t ∈ ends64L, t.length ≤ 4 := by decide
  rw [fromB64_of_run l (by omega)] at hc ⊢
  cases hr : runB 0 0 0 false [] l with
  | ok o =>
    rw [hr] at hc
    by_cases h4 : l.length % 4 = 0
    · rw [end_ok _ _ h4] at hc; exact absurd rfl hc
    · rw [end_bad _ _ h4]
      obtain ⟨t, ht, ⟨o', ho⟩, hl⟩ := runB_ends l 0 0 0 false [] o h0 hr
      refine ⟨l.length, Nat.le_refl _, rfl, ⟨t, ht, ?_⟩, fun e => by omega⟩
      have := hts t ht
      rw [List.take_length, fromB64_of_run _ (by simp; omega), ho, end_ok _ _ (by simp at hl ⊢; omega)]
      rfl
  | error e =>
    obtain ⟨k, hk, hkl, _, o, ho⟩ := runB_pre l [] 0 0 0 false [] e hr
    have hk : e = k := by omega
    subst hk
    refine ⟨e, by omega, rfl, ?_, fun _ m hm => ?_⟩
    · obtain ⟨t, ht, ⟨o', ho'⟩, hl⟩ := runB_ends (l.take e) 0 0 0 false [] o h0 ho
      have := hts t ht
      have hlen : (l.take e ++ t).length ≤ 1048576 := by simp; omega
      refine ⟨t, ht, ?_⟩
      rw [fromB64_of_run _ hlen, ho', end_ok _ _ (by simp at hl ⊢; omega)]
      rfl
    · obtain ⟨k', hk', _, hx, _⟩ := runB_pre l m 0 0 0 false [] e hr
      obtain rfl : e = k' := by omega
      rw [fromB64_of_run _ (by simp; omega), hx]
      rfl

/-! ### sixteen digits -/
theorem runH_ok : ∀ (l m : List UInt8) (i h : Nat) (out o : List UInt8), runH i h out l = .ok o → ∃ h' o', runH i h out (l ++ m) = runH (i + l.length) h' o' m
  | [], m, i, h, out, o, _ => ⟨h, out, rfl⟩
  | c :: r, m, i, h, out, o, hr => by
    rw [runH_cons] at hr
    split at hr
    · cases hr
    · rename_i hc
      split at hr
      · rename_i hi
        obtain ⟨h', o', e⟩ := runH_ok r m _ _ _ _ hr
        refine ⟨h', o', ?_⟩
        rw [List.cons_append, runH_cons, if_neg hc, if_pos hi, e, List.length_cons, show i + 1 + r.length = i + (r.length + 1) by omega]
      · rename_i hi
        obtain ⟨h', o', e⟩ := runH_ok r m _ _ _ _ hr
        refine ⟨h', o', ?_⟩
        rw [List.cons_append, runH_cons, if_neg hc, if_neg hi, e, List.length_cons, show i + 1 + r.length = i + (r.length + 1) by omega]
theorem runH_pre : ∀ (l m : List UInt8) (i h : Nat) (out : List UInt8) (e : Nat), runH i h out l = .error e → ∃ k, e = i + k ∧ k < l.length ∧ runH i h out (l.take (k + 1) ++ m) = .error e ∧ ∃ o, runH i h out (l.take k) = .ok o
  | [], m, i, h, out, e, hr => by cases hr
  | c :: r, m, i, h, out, e, hr => by
    rw [runH_cons] at hr
    split at hr
    · rename_i hc
      injection hr with hr
      refine ⟨0, by omega, by simp, ?_, out, rfl⟩
      simp only [List.take_succ_cons, List.take_zero, List.cons_append]
      rw [runH_cons, if_pos hc, hr]
    · rename_i hc
      split at hr
      · rename_i hi
        obtain ⟨k, hk, hl, hx, o, ho⟩ := runH_pre r m _ _ _ e hr
        refine ⟨k + 1, by omega, by simp; omega, ?_, o, ?_⟩
        · simp only [List.take_succ_cons, List.cons_append]
          rw [runH_cons, if_neg hc, if_pos hi]; exact hx
        · simp only [List.take_succ_cons]
          rw [runH_cons, if_neg hc, if_pos hi]; exact ho
      · rename_i hi
        obtain ⟨k, hk, hl, hx, o, ho⟩ := runH_pre r m _ _ _ e hr
        refine ⟨k + 1, by omega, by simp; omega, ?_, o, ?_⟩
        · simp only [List.take_succ_cons, List.cons_append]
          rw [runH_cons, if_neg hc, if_neg hi]; exact hx
        · simp only [List.take_succ_cons]
          rw [runH_cons, if_neg hc, if_neg hi]; exact ho
theorem fromHex_of_run (l : List UInt8) (h : l.length ≤ 1048576) : fromHexL l = toldAt [] (endH l.length (runH 0 0 [] l)) := by
  unfold fromHexL; rw [if_neg (by omega)]
theorem idx16_48 : idx16 48 = (0 : Nat) := by kernel_rfl
/-- .. to be brought to an even number of digits. -/
def evenL (l : List UInt8) : List UInt8 := if l.length % 2 = 1 then l ++ [48] else l
theorem runH_even (l : List UInt8) (o : List UInt8) (h : runH 0 0 [] l = .ok o) : ∃ o', endH (evenL l).length (runH 0 0 [] (evenL l)) = .ok o' := by
  unfold evenL
  split
  · rename_i h1
    obtain ⟨h', o', e⟩ := runH_ok l [48] 0 0 [] o h
    rw [e, runH_cons, if_neg (by rw [idx16_48]; omega), if_neg (by omega)]
    unfold runH endH
    simp only []
    rw [if_neg (by simp; omega)]
    exact ⟨_, rfl⟩
  · rename_i h1
    rw [h]
    unfold endH
    simp only []
    rw [if_neg (by omega)]
    exact ⟨_, rfl⟩
theorem wrongHex (l : List UInt8) (h : l.length ≤ 60000) (hc : (fromHexL l).2.1 ≠ 0) : ∃ k, k ≤ l.length ∧ (fromHexL l).2 = (3, some (k : Int)) ∧ (fromHexL (evenL (l.take k))).2 = (0, none) ∧
    (k < l.length → ∀ m : List UInt8, m.length ≤ 60000 → (fromHexL (l.take (k + 1) ++ m)).2 = (3, some (k : Int))) := by
  have hev : ∀ m : List UInt8, m.length ≤ 60000 → (evenL m).length ≤ 1048576 := fun m hm => by
    unfold evenL
    split
    · simp; omega
    · omega
  rw [fromHex_of_run l (by omega)] at hc ⊢
  cases hr : runH 0 0 [] l with
  | ok o =>
    rw [hr] at hc
    by_cases h2 : l.length % 2 = 0
    · unfold endH at hc
      simp only [] at hc
      rw [if_neg (by omega)] at hc
      exact absurd rfl hc
    · obtain ⟨o', he⟩ := runH_even l o hr
      refine ⟨l.length, Nat.le_refl _, ?_, ?_, fun e => by omega⟩
      · unfold endH
        simp only []
        rw [if_pos (by omega)]; rfl
      · rw [List.take_length, fromHex_of_run _ (hev l h), he]; rfl
  | error e =>
    obtain ⟨k, hk, hkl, _, o, ho⟩ := runH_pre l [] 0 0 [] e hr
    have hk : e = k := by omega
    subst hk
    refine ⟨e, by omega, rfl, ?_, fun _ m hm => ?_⟩
    · obtain ⟨o', he⟩ := runH_even (l.take e) o ho
      rw [fromHex_of_run _ (hev _ (by simp; omega)), he]; rfl
    · obtain ⟨k', hk', _, hx, _⟩ := runH_pre l m 0 0 [] e hr
      obtain rfl : e = k' := by omega
      rw [fromHex_of_run _ (by simp; omega), hx]
      rfl

/-! ### ten digits -/
theorem wrongDec (l : List UInt8) (h : l.length ≤ 60000) (hc : (fromDec l).2.1 ≠ 0) : ∃ k, k ≤ l.length ∧ (fromDec l).2 = (3, some (k : Int)) ∧ (0 < k → (fromDec (l.take k)).2 = (0, none)) ∧
    (k < l.length → ∀ m : List UInt8, m.length ≤ 60000 → (fromDec (l.take (k + 1) ++ m)).2 = (3, some (k : Int))) := by
  cases l with
  | nil => exact ⟨0, by simp, rfl, fun h => by omega, fun h => by simp at h⟩
  | cons f r =>
    have hf : ∀ m : List UInt8, (f :: m).length ≤ 1048576 → fromDec (f :: m) = toldAt 0 (decRun f 0 0 (f :: m)) := fun m hm => by
      unfold fromDec; rw [if_neg (by omega)]
    rw [hf r (by omega)] at hc ⊢
    cases hr : decRun f 0 0 (f :: r) with
    | ok z => rw [hr] at hc; exact absurd rfl hc
    | error e =>
      obtain ⟨k, hk, hkl, _, z, hz⟩ := decRun_pre f (f :: r) [] 0 0 e hr
      have hk : e = k := by omega
      subst hk
      refine ⟨e, by omega, rfl, fun h0 => ?_, fun _ m hm => ?_⟩
      · obtain ⟨j, rfl⟩ : ∃ j, e = j + 1 := ⟨e - 1, by omega⟩
        rw [List.take_succ_cons] at hz ⊢
        simp only [List.length_cons] at h
        rw [hf _ (by simp; omega), hz]; rfl
      · obtain ⟨k', hk', _, hx, _⟩ := decRun_pre f (f :: r) m 0 0 e hr
        obtain rfl : e = k' := by omega
        rw [List.take_succ_cons, List.cons_append] at hx ⊢
        simp only [List.length_cons] at h
        rw [hf _ (by simp; omega), hx]; rfl
end Go.Proofs.YtobnlnkmonaohaaDoor
