/-
  Signed notes in plain Lean: a signature as bytes, the lines of a note, where a text is none. The rune U+FFFD, written out or of no UTF-8; where a text has what no note has, rune by rune: in plain Lean.
-/
import Derived.Test.YticlgcfodlcpcaaGreatDoorKeyP
import Derived.Test.YticlgcfodlcpcaaGreatDoorBackP
import Derived.Test.YticlgcfodlcpcaaGreatDoorSeen
import Derived.Lib.LastIndexLaws
import Derived.Lib.IndexMore
namespace Go.Proofs.YticlgcfodlcpcaaGreatDoor
open Go.RowKit

/-- The number at a text's head, from its byte number i on, and what stands behind it. -/
def rdVar (i : Nat) : List UInt8 → Option (Nat × List UInt8)
  | [] => none
  | c :: r => if (i = 9 ∧ 1 < c.toNat) ∨ (0 < i ∧ c.toNat = 0) then none else if c.toNat < 128 then some (c.toNat * 128 ^ i, r) else (rdVar (i + 1) r).map fun x => (c.toNat % 128 * 128 ^ i + x.1, x.2)
/-- So many hashes. -/
def rdHs : Nat → List UInt8 → Option (List (List UInt8) × List UInt8)
  | 0, l => some ([], l)
  | n + 1, l => if l.length < 32 then none else (rdHs n (l.drop 32)).map fun x => (l.take 32 :: x.1, x.2)
/-- keys.Decode. -/
def decF (b : List UInt8) : Option (Nat × List (List UInt8) × List (List UInt8)) :=
  (rdVar 0 b).bind fun x => (rdHs 67 x.2).bind fun y => (rdVar 0 y.2).bind fun z => if 6 < z.1 then none else (rdHs z.1 z.2).bind fun u => if u.2 = [] ∧ x.1 ≤ 63 then some (x.1, y.1, u.1) else none
/-- keys.Encode. -/
def encF (i : Nat) (c p : List (List UInt8)) : List UInt8 := UInt8.ofNat i :: (c.flatten ++ UInt8.ofNat p.length :: p.flatten)
theorem rdHs_flat : ∀ (c : List (List UInt8)) (r : List UInt8), (∀ h ∈ c, h.length = 32) → rdHs c.length (c.flatten ++ r) = some (c, r)
  | [], r, _ => rfl
  | h :: c, r, hl => by
    have h32 := hl h (List.mem_cons_self ..)
    have ih := rdHs_flat c r fun x hx => hl x (List.mem_cons_of_mem _ hx)
    rw [List.length_cons, rdHs, List.flatten_cons, List.append_assoc, if_neg (by rw [List.length_append]; omega)]
    rw [List.drop_append_of_le_length (by omega), List.drop_of_length_le (by omega), List.nil_append, List.take_append_of_le_length (by omega), List.take_of_length_le (by omega), ih]
    rfl
theorem rdVar_small (n : Nat) (h : n < 128) (r : List UInt8) : rdVar 0 (UInt8.ofNat n :: r) = some (n, r) := by
  have e : (UInt8.ofNat n).toNat = n := by simp; omega
  rw [rdVar, e, if_neg (by omega), if_pos h]
  simp
theorem dec_enc (i : Nat) (c p : List (List UInt8)) (hi : i ≤ 63) (hc : c.length = 67) (hp : p.length ≤ 6) (hcl : ∀ h ∈ c, h.length = 32) (hpl : ∀ h ∈ p, h.length = 32) : decF (encF i c p) = some (i, c, p) := by
  unfold decF encF
  rw [rdVar_small i (by omega)]
  simp only [Option.bind_some]
  rw [← hc, rdHs_flat c _ hcl]
  simp only [Option.bind_some]
  rw [rdVar_small _ (by omega)]
  simp only [Option.bind_some]
  rw [if_neg (by omega)]
  have := rdHs_flat p [] hpl
  rw [List.append_nil] at this
  rw [this]
  simp [hi]
theorem encF_length (i : Nat) (c p : List (List UInt8)) (hc : c.length = 67) (hcl : ∀ h ∈ c, h.length = 32) (hpl : ∀ h ∈ p, h.length = 32) : (encF i c p).length = 2146 + 32 * p.length := by
  have flat : ∀ l : List (List UInt8), (∀ h ∈ l, h.length = 32) → l.flatten.length = 32 * l.length := by
    intro l
    induction l with
    | nil => intro _; rfl
    | cons a r ih =>
      intro hl
      rw [List.flatten_cons, List.length_append, ih fun x hx => hl x (List.mem_cons_of_mem _ hx), hl a (List.mem_cons_self ..), List.length_cons]
      omega
  unfold encF
  rw [List.length_cons, List.length_append, List.length_cons, flat c hcl, flat p hpl, hc]
  omega

/-- A rune of so many bytes that no note has. -/
def oddB (r : Int) (n : Nat) : Bool := (decide (r = 65533) && decide (n = 1)) || (decide (r ≠ 10) && controlB r)
/-- A rune that no text to be signed has. -/
def badTxt (r : Int) : Bool := decide (r ≠ 10) && controlB r
/-- Where a text has what no note has. -/
def oddAt : Nat → Nat → List UInt8 → Option Nat
  | 0, _, _ => none
  | f + 1, at', l => if l = [] then none else if oddB (Lib.decodeL l).1 (Lib.decodeL l).2 = true then some at' else oddAt f (at' + (Lib.decodeL l).2) (l.drop (Lib.decodeL l).2)
theorem oddAt_good : ∀ (f at' : Nat) (l : List UInt8), oddAt f at' l = none ↔ goodD badTxt f l = true
  | 0, _, _ => by simp [oddAt, goodD]
  | f + 1, at', l => by
    unfold oddAt goodD
    by_cases h : l = []
    · rw [if_pos h, if_pos h]; simp
    · rw [if_neg h, if_neg h]
      by_cases h1 : (Lib.decodeL l).1 = 65533 ∧ (Lib.decodeL l).2 = 1
      · rw [if_pos h1, if_pos (by unfold oddB; simp [h1.1, h1.2])]
        simp
      · rw [if_neg h1]
        have e : oddB (Lib.decodeL l).1 (Lib.decodeL l).2 = badTxt (Lib.decodeL l).1 := by
          unfold oddB badTxt
          have : (decide (((Lib.decodeL l).1 : Int) = 65533) && decide ((Lib.decodeL l).2 = 1)) = false := by
            rw [Bool.eq_false_iff]
            intro h2
            simp only [Bool.and_eq_true, decide_eq_true_eq] at h2
            exact h1 ⟨by omega, h2.2⟩
          rw [this, Bool.false_or]
        rw [e]
        by_cases h2 : badTxt (Lib.decodeL l).1 = true
        · rw [if_pos h2, if_pos h2]; simp
        · rw [if_neg h2, if_neg h2]
          exact oddAt_good f _ _
/-- May a text be signed? -/
def mayTxt (l : List UInt8) : Bool := decide (l ≠ []) && decide (l.length ≤ 524288) && (oddAt l.length 0 l).isNone && decide (l.getLast? = some 10)
def dashL : List UInt8 := [226, 128, 148, 32]
/-- A signature line, without its line feed. -/
def readLn (row : List UInt8) : Option (List UInt8 × List UInt8) :=
  if Lib.hasPrefix row dashL = true ∧ (Lib.cut (Lib.trimPrefix row dashL) [32]).2.2 = true ∧ nameOf (Lib.cut (Lib.trimPrefix row dashL) [32]).1 = true ∧ (fromB64 (Lib.cut (Lib.trimPrefix row dashL) [32]).2.1).2.1 = 0 ∧ (fromB64 (Lib.cut (Lib.trimPrefix row dashL) [32]).2.1).1 ≠ [] ∧ (fromB64 (Lib.cut (Lib.trimPrefix row dashL) [32]).2.1).1.length ≤ 4096
  then some ((Lib.cut (Lib.trimPrefix row dashL) [32]).1, (fromB64 (Lib.cut (Lib.trimPrefix row dashL) [32]).2.1).1) else none
/-- The lines of a note from a place on. -/
def linesN : Nat → Nat → List UInt8 → List (List UInt8 × List UInt8) → Except Nat (List (List UInt8 × List UInt8))
  | 0, at', l, acc => if l = [] then .ok acc else .error at'
  | f + 1, at', l, acc => if l = [] then .ok acc else
    match readLn (Lib.cut l [10]).1 with
    | none => .error at'
    | some x => if (Lib.cut l [10]).2.2 = false ∨ (acc.any fun y => decide (y.1 = x.1)) = true ∨ acc.length = 16 then .error at' else linesN f (at' + (Lib.cut l [10]).1.length + 1) (Lib.cut l [10]).2.1 (acc ++ [x])
/-- The length of a note's text. -/
def endN (l : List UInt8) : Nat := (Lib.lastIndex l [10, 10] + 1).toNat
def toldN (n : Nat) (t : List UInt8) : Except Nat (List (List UInt8 × List UInt8)) → (List UInt8 × List (List UInt8 × List UInt8)) × Nat × Option Int
  | .error i => (([], []), 3, some (i : Int))
  | .ok [] => (([], []), 3, some (n : Int))
  | .ok (x :: r) => ((t, x :: r), 0, none)
/-- A note's text and lines; else which error, and where. -/
def splitN (l : List UInt8) : (List UInt8 × List (List UInt8 × List UInt8)) × Nat × Option Int :=
  if 1048576 < l.length then (([], []), 4, none) else
  match oddAt l.length 0 l with
  | some i => (([], []), 3, some (i : Int))
  | none => if endN l = 0 ∨ 524288 < endN l then (([], []), 3, some (l.length : Int)) else toldN l.length (l.take (endN l)) (linesN l.length (endN l + 1) (l.drop (endN l + 1)) [])

/-- A line as it is put behind a note. -/
def lineL (x : List UInt8 × List UInt8) : List UInt8 := dashL ++ (x.1 ++ 32 :: (b64 x.2 ++ [10]))
def noteL (s : List UInt8) (L : List (List UInt8 × List UInt8)) : List UInt8 := s ++ 10 :: L.flatMap lineL
/-- Lines that may be read. -/
def fineLn (x : List UInt8 × List UInt8) : Prop := nameOf x.1 = true ∧ x.2 ≠ [] ∧ x.2.length ≤ 4096

theorem index_none : ∀ (l : List UInt8) (c : UInt8), c ∉ l → Lib.index l [c] = -1
  | [], c, _ => rfl
  | b :: r, c, h => by
    have hb : c ≠ b := fun e => h (by rw [e]; exact List.mem_cons_self ..)
    have hr := index_none r c fun e => h (List.mem_cons_of_mem _ e)
    unfold Lib.index
    rw [if_neg (by simp [List.isPrefixOf, hb]), hr]
    rfl
theorem index_app : ∀ (l m : List UInt8) (c : UInt8), c ∉ l → Lib.index (l ++ c :: m) [c] = (l.length : Int)
  | [], m, c, _ => by
    unfold Lib.index
    simp [List.isPrefixOf]
  | b :: r, m, c, h => by
    have hb : c ≠ b := fun e => h (by rw [e]; exact List.mem_cons_self ..)
    have hr := index_app r m c fun e => h (List.mem_cons_of_mem _ e)
    rw [List.cons_append]
    unfold Lib.index
    rw [if_neg (by simp [List.isPrefixOf, hb]), hr, if_neg (by simp)]
    simp
theorem cut_app (l m : List UInt8) (c : UInt8) (h : c ∉ l) : Lib.cut (l ++ c :: m) [c] = (l, m, true) := by
  unfold Lib.cut
  rw [index_app l m c h, if_pos (by omega), Int.toNat_natCast]
  congr 1
  · rw [List.take_append_of_le_length (Nat.le_refl _), List.take_of_length_le (Nat.le_refl _)]
  · congr 1
    rw [List.length_singleton, List.drop_append]
    simp
theorem pre_dash (r : List UInt8) : Lib.hasPrefix (dashL ++ r) dashL = true ∧ Lib.trimPrefix (dashL ++ r) dashL = r := by
  constructor
  · unfold Lib.hasPrefix dashL; simp [List.isPrefixOf]
  · unfold Lib.trimPrefix dashL; simp [List.isPrefixOf, Lib.hasPrefix]
theorem name_no {l : List UInt8} (h : nameOf l = true) (c : UInt8) (hc : c.toNat < 128) (hb : badName (c.toNat : Int) = true) : c ∉ l := by
  intro hm
  obtain ⟨a, b, rfl⟩ := List.append_of_mem hm
  rw [name_mid hc hb] at h
  cases h
theorem letters_no (c : UInt8) (h : c ∈ lettersL) : c ≠ 10 ∧ 33 ≤ c.toNat ∧ c.toNat < 127 := by
  have : ∀ x ∈ lettersL, x ≠ 10 ∧ 33 ≤ x.toNat ∧ x.toNat < 127 := by decide
  exact this c h
theorem L64_mem (i : Nat) (h : i < 64) : L64 i ∈ lettersL := List.mem_of_getElem? (L64_get i h)
theorem b64_all : ∀ (l : List UInt8), ∀ c ∈ b64 l, c ∈ lettersL ∨ c = 61
  | [], c, h => by simp [b64] at h
  | [a], c, h => by
    have := a.toNat_lt
    simp only [b64, List.mem_cons, List.not_mem_nil, or_false] at h
    rcases h with rfl | rfl | rfl | rfl
    · exact Or.inl (L64_mem _ (by omega))
    · exact Or.inl (L64_mem _ (by omega))
    · exact Or.inr rfl
    · exact Or.inr rfl
  | [a, b], c, h => by
    have := a.toNat_lt
    have := b.toNat_lt
    simp only [b64, List.mem_cons, List.not_mem_nil, or_false] at h
    rcases h with rfl | rfl | rfl | rfl
    · exact Or.inl (L64_mem _ (by omega))
    · exact Or.inl (L64_mem _ (by omega))
    · exact Or.inl (L64_mem _ (by omega))
    · exact Or.inr rfl
  | x :: y :: z :: r, c, h => by
    simp only [b64, List.mem_cons] at h
    rcases h with rfl | rfl | rfl | rfl | h
    · exact Or.inl (L64_mem _ (by omega))
    · exact Or.inl (L64_mem _ (by omega))
    · exact Or.inl (L64_mem _ (by omega))
    · exact Or.inl (L64_mem _ (by omega))
    · exact b64_all r c h
theorem b64_byte (l : List UInt8) (c : UInt8) (h : c ∈ b64 l) : c ≠ 10 ∧ 33 ≤ c.toNat ∧ c.toNat < 127 := by
  rcases b64_all l c h with h | rfl
  · exact letters_no c h
  · decide
def rowL (x : List UInt8 × List UInt8) : List UInt8 := dashL ++ (x.1 ++ 32 :: b64 x.2)
theorem lineL_row (x : List UInt8 × List UInt8) (r : List UInt8) : lineL x ++ r = rowL x ++ 10 :: r := by simp [lineL, rowL]
theorem rowL_no (x : List UInt8 × List UInt8) (h : nameOf x.1 = true) : (10 : UInt8) ∉ rowL x := by
  unfold rowL
  simp only [List.mem_append, List.mem_cons, not_or]
  refine ⟨by decide, name_no h 10 (by decide) (by decide), by decide, fun hm => (b64_byte _ _ hm).1 rfl⟩
theorem read_row (x : List UInt8 × List UInt8) (h : fineLn x) : readLn (rowL x) = some x := by
  obtain ⟨h1, h2, h3⟩ := h
  have hp := pre_dash (x.1 ++ 32 :: b64 x.2)
  have hc := cut_app x.1 (b64 x.2) 32 (name_no h1 32 (by decide) (by decide))
  have hb := fromB64_b64 x.2 (by omega)
  unfold readLn rowL
  rw [hp.1, hp.2, hc]
  simp only [hb]
  rw [if_pos ⟨trivial, trivial, h1, trivial, h2, h3⟩]
theorem lines_note : ∀ (L : List (List UInt8 × List UInt8)) (f at' : Nat) (acc : List (List UInt8 × List UInt8)), (∀ x ∈ L, fineLn x) → ((acc ++ L).map Prod.fst).Nodup → acc.length + L.length ≤ 16 → (L.flatMap lineL).length ≤ f →
    linesN f at' (L.flatMap lineL) acc = .ok (acc ++ L)
  | [], f, at', acc, _, _, _, _ => by cases f <;> simp [linesN]
  | x :: r, f, at', acc, hf, hn, hl, hlen => by
    have hx := hf x (List.mem_cons_self ..)
    have e : (x :: r).flatMap lineL = rowL x ++ 10 :: r.flatMap lineL := by rw [List.flatMap_cons, lineL_row]
    rw [e] at hlen ⊢
    simp only [List.length_append, List.length_cons] at hlen hl
    cases f with
    | zero => omega
    | succ f =>
      have hnil : rowL x ++ 10 :: r.flatMap lineL ≠ [] := by simp
      rw [linesN, if_neg hnil, cut_app _ _ _ (rowL_no x hx.1)]
      simp only [read_row x hx]
      have hany : (acc.any fun y => decide (y.1 = x.1)) = false := by
        rw [Bool.eq_false_iff]
        intro h
        rw [List.any_eq_true] at h
        obtain ⟨y, hy, hyx⟩ := h
        rw [List.map_append, List.map_cons] at hn
        have := (List.nodup_append.1 hn).2.2 y.1 (List.mem_map_of_mem hy) x.1 (List.mem_cons_self ..)
        exact this (of_decide_eq_true hyx)
      rw [hany, if_neg (by simp; omega)]
      have ih := lines_note r f (at' + (rowL x).length + 1) (acc ++ [x]) (fun y hy => hf y (List.mem_cons_of_mem _ hy)) (by rw [List.append_assoc]; exact hn) (by rw [List.length_append, List.length_singleton]; omega) (by omega)
      rw [ih, List.append_assoc]
      rfl
/-- No line feed right behind another. -/
def noNN : List UInt8 → Bool
  | [] => true
  | c :: r => if c = 10 ∧ r.head? = some 10 then false else noNN r
theorem noNN_occ : ∀ (l : List UInt8), noNN l = true → ∀ j, Lib.occAt l [10, 10] j = false
  | [], _, j => by simp [Lib.occAt]
  | c :: r, h, 0 => by
    unfold noNN at h
    split at h
    · cases h
    · rename_i hn
      cases r with
      | nil => simp [Lib.occAt, List.isPrefixOf]
      | cons d r =>
        simp only [Lib.occAt, List.drop_zero, List.isPrefixOf, Bool.and_eq_false_iff, beq_eq_false_iff_ne]
        by_cases h1 : c = 10
        · right; left
          intro h2
          exact hn ⟨h1, by rw [← h2]; rfl⟩
        · left; exact fun e => h1 e.symm
  | c :: r, h, j + 1 => by
    unfold noNN at h
    split at h
    · cases h
    · have := noNN_occ r h j
      simpa [Lib.occAt] using this
theorem noNN_app : ∀ (l m : List UInt8), (10 : UInt8) ∉ l → m.head? = some 10 → noNN m = true → noNN (l ++ m) = true
  | [], m, _, _, h => h
  | c :: r, m, hc, hh, h => by
    rw [List.cons_append]
    unfold noNN
    rw [if_neg (by rintro ⟨e, _⟩; exact hc (by rw [e]; exact List.mem_cons_self ..))]
    exact noNN_app r m (fun e => hc (List.mem_cons_of_mem _ e)) hh h
theorem noNN_lines : ∀ (L : List (List UInt8 × List UInt8)), (∀ x ∈ L, nameOf x.1 = true) → noNN (10 :: L.flatMap lineL) = true
  | [], _ => by decide
  | x :: r, h => by
    have ih := noNN_lines r fun y hy => h y (List.mem_cons_of_mem _ hy)
    have e : (x :: r).flatMap lineL = rowL x ++ 10 :: r.flatMap lineL := by rw [List.flatMap_cons, lineL_row]
    rw [e]
    unfold noNN
    rw [if_neg]
    · exact noNN_app _ _ (rowL_no x (h x (List.mem_cons_self ..))) rfl ih
    · rintro ⟨_, h2⟩
      simp [rowL, dashL] at h2
theorem end_note (s : List UInt8) (L : List (List UInt8 × List UInt8)) (hs : s.getLast? = some 10) (hL : ∀ x ∈ L, nameOf x.1 = true) : endN (noteL s L) = s.length := by
  obtain ⟨a, rfl⟩ : ∃ a, s = a ++ [10] := by
    rw [List.getLast?_eq_some_iff] at hs
    exact hs
  have hn := noNN_occ _ (noNN_lines L hL)
  unfold endN Lib.lastIndex noteL
  rw [if_pos (by simp; omega)]
  have hocc : Lib.occAt (a ++ [10] ++ 10 :: L.flatMap lineL) [10, 10] a.length = true := by
    unfold Lib.occAt
    rw [List.append_assoc, List.drop_append_of_le_length (Nat.le_refl _), List.drop_of_length_le (Nat.le_refl _)]
    simp [List.isPrefixOf]
  have hno : ∀ j, a.length < j → Lib.occAt (a ++ [10] ++ 10 :: L.flatMap lineL) [10, 10] j = false := by
    intro j hj
    have := hn (j - (a.length + 1))
    unfold Lib.occAt at this ⊢
    rw [List.drop_append, List.drop_of_length_le (by simp; omega), List.nil_append]
    simpa using this
  rcases Lib.lastOcc_spec (a ++ [10] ++ 10 :: L.flatMap lineL) [10, 10] ((a ++ [10] ++ 10 :: L.flatMap lineL).length - [(10 : UInt8), 10].length + 1) with ⟨_, h⟩ | ⟨i, hi, e, h1, h2⟩
  · have := h a.length (by simp; omega)
    rw [hocc] at this
    cases this
  · have hia : i = a.length := by
      rcases Nat.lt_trichotomy i a.length with h3 | h3 | h3
      · have := h2 a.length h3 (by simp; omega)
        rw [hocc] at this
        cases this
      · exact h3
      · have := hno i h3
        rw [h1] at this
        cases this
    rw [e, hia]
    simp
theorem badTxt_name (r : Int) (h : badName r = false) : badTxt r = false := by
  unfold badTxt
  rw [controlB_bad r h, Bool.and_false]
theorem goodT_ascii : ∀ (l : List UInt8) (n : Nat), (∀ c ∈ l, c = 10 ∨ (32 ≤ c.toNat ∧ c.toNat < 127)) → goodD badTxt n l = true
  | _, 0, _ => rfl
  | [], n + 1, _ => goodD_end _ _
  | c :: r, n + 1, h => by
    have hc := h c (List.mem_cons_self ..)
    have hlt : c.toNat < 128 := by rcases hc with rfl | h; decide; omega
    have hd : Lib.decodeL (c :: r) = (c.toNat, 1) := Lib.decodeL_ascii c r hlt
    unfold goodD
    rw [if_neg (by simp), hd, if_neg (by simp; omega)]
    have hb : badTxt (c.toNat : Int) = false := by
      unfold badTxt controlB
      rcases hc with rfl | hc
      · decide
      · rw [Bool.and_eq_false_iff]
        right
        simp
        omega
    rw [if_neg (by rw [hb]; simp)]
    exact goodT_ascii r n fun x hx => h x (List.mem_cons_of_mem _ hx)
theorem goodT_len {l : List UInt8} {n : Nat} (h : goodD badTxt n l = true) (hn : l.length ≤ n) : goodD badTxt l.length l = true := by rw [goodD_fuel badTxt l.length n l (Nat.le_refl _) hn]; exact h
theorem goodT_app {l m : List UInt8} (h : goodD badTxt l.length l = true) (k : goodD badTxt m.length m = true) : goodD badTxt (l ++ m).length (l ++ m) = true := by
  rw [goodD_app badTxt l.length l m _ h (Nat.le_refl _) (Nat.le_refl _)]
  exact k
theorem goodT_line (x : List UInt8 × List UInt8) (h : nameOf x.1 = true) : goodD badTxt (lineL x).length (lineL x) = true := by
  unfold lineL
  refine goodT_app (by decide +kernel) (goodT_app (goodD_mono badName badTxt badTxt_name _ _ (name_len h).2.2) ?_)
  refine goodT_ascii _ _ fun c hc => ?_
  simp only [List.mem_cons, List.mem_append, List.not_mem_nil, or_false] at hc
  rcases hc with rfl | hc | rfl
  · decide
  · have := b64_byte _ _ hc
    omega
  · decide
theorem goodT_lines : ∀ (L : List (List UInt8 × List UInt8)), (∀ x ∈ L, nameOf x.1 = true) → goodD badTxt (L.flatMap lineL).length (L.flatMap lineL) = true
  | [], _ => rfl
  | x :: r, h => by
    rw [List.flatMap_cons]
    exact goodT_app (goodT_line x (h x (List.mem_cons_self ..))) (goodT_lines r fun y hy => h y (List.mem_cons_of_mem _ hy))
/-- A text that may be signed, with lines behind it, is split into them. -/
theorem split_note (s : List UInt8) (L : List (List UInt8 × List UInt8)) (hs : mayTxt s = true) (hL : ∀ x ∈ L, fineLn x) (hne : L ≠ []) (hn : (L.map Prod.fst).Nodup) (h16 : L.length ≤ 16) (hlen : (noteL s L).length ≤ 1048576) :
    splitN (noteL s L) = ((s, L), 0, none) := by
  unfold mayTxt at hs
  simp only [Bool.and_eq_true, decide_eq_true_eq, Option.isNone_iff_eq_none] at hs
  obtain ⟨⟨⟨h1, h2⟩, h3⟩, h4⟩ := hs
  have hnm : ∀ x ∈ L, nameOf x.1 = true := fun x hx => (hL x hx).1
  have hg : oddAt (noteL s L).length 0 (noteL s L) = none := by
    rw [oddAt_good]
    unfold noteL
    refine goodT_app ((oddAt_good _ _ _).1 h3) ?_
    rw [show (10 :: L.flatMap lineL) = [10] ++ L.flatMap lineL from rfl]
    exact goodT_app (by decide +kernel) (goodT_lines L hnm)
  have he := end_note s L h4 hnm
  have h0 := List.length_pos_iff.2 h1
  unfold splitN
  rw [if_neg (by omega), hg, he]
  simp only
  rw [if_neg (by omega)]
  have hd : (noteL s L).drop (s.length + 1) = L.flatMap lineL := by
    unfold noteL
    rw [List.drop_append, List.drop_of_length_le (by omega)]
    simp
  have ht : (noteL s L).take s.length = s := by
    unfold noteL
    rw [List.take_append_of_le_length (Nat.le_refl _), List.take_of_length_le (Nat.le_refl _)]
  rw [hd, ht, lines_note L _ _ [] hL (by simpa using hn) (by simpa using h16) (by unfold noteL; simp; omega)]
  cases L with
  | nil => exact absurd rfl hne
  | cons x r => rfl
/-- The lines that a split tells may be read, and it is made of them. -/
theorem line_length (x : List UInt8 × List UInt8) : (lineL x).length = 6 + x.1.length + (x.2.length + 2) / 3 * 4 := by
  unfold lineL dashL
  simp [b64_length]
  omega
end Go.Proofs.YticlgcfodlcpcaaGreatDoor

namespace Go.Proofs.YticlgcfodlcpcaaGreatDoor
open Go.RowKit

theorem decodeN_fffd (n x y z u : Nat) (hx : x < 256) (_ : y < 256) (_ : z < 256) (h : (Lib.decodeN n x y z u).1 = 65533) : (Lib.decodeN n x y z u).2 ≠ 1 ↔ (2 < n ∧ x = 239 ∧ y = 191 ∧ z = 189) := by
  unfold Lib.decodeN at h ⊢
  by_cases c1 : x < 128
  · rw [if_pos c1] at h
    simp only at h
    omega
  rw [if_neg c1] at h ⊢
  by_cases c2 : x / 32 = 6 ∧ (1 < n ∧ y / 64 = 2)
  · rw [if_pos c2] at h ⊢
    by_cases d : x % 32 * 64 + y % 64 ≥ 128
    · rw [if_pos d] at h
      simp only at h
      omega
    · rw [if_neg d]
      simp only [ne_eq, not_true_eq_false, false_iff]
      omega
  rw [if_neg c2] at h ⊢
  by_cases c3 : x / 16 = 14 ∧ (1 < n ∧ y / 64 = 2) ∧ (2 < n ∧ z / 64 = 2)
  · rw [if_pos c3] at h ⊢
    by_cases d : x % 16 * 4096 + y % 64 * 64 + z % 64 ≥ 2048 ∧ (x % 16 * 4096 + y % 64 * 64 + z % 64 < 55296 ∨ (57344 ≤ x % 16 * 4096 + y % 64 * 64 + z % 64 ∧ x % 16 * 4096 + y % 64 * 64 + z % 64 ≤ 1114111))
    · rw [if_pos d] at h ⊢
      simp only at h
      simp only [ne_eq]
      omega
    · rw [if_neg d]
      simp only [ne_eq, not_true_eq_false, false_iff]
      omega
  rw [if_neg c3] at h ⊢
  by_cases c4 : x / 8 = 30 ∧ (1 < n ∧ y / 64 = 2) ∧ (2 < n ∧ z / 64 = 2) ∧ (3 < n ∧ u / 64 = 2)
  · rw [if_pos c4] at h ⊢
    split at h
    · rename_i d
      simp only at h
      omega
    · rename_i d
      rw [if_neg d]
      simp only [ne_eq, not_true_eq_false, false_iff]
      omega
  rw [if_neg c4]
  simp only [ne_eq, not_true_eq_false, false_iff]
  omega
def fffdL : List UInt8 := [239, 191, 189]
theorem fffd (l : List UInt8) (h : (Lib.decodeL l).1 = 65533) : Lib.hasPrefix l fffdL = decide ((Lib.decodeL l).2 ≠ 1) := by
  have key := decodeN_fffd l.length (l.getD 0 0).toNat (l.getD 1 0).toNat (l.getD 2 0).toNat (l.getD 3 0).toNat (UInt8.toNat_lt _) (UInt8.toNat_lt _) (UInt8.toNat_lt _) (by rw [← Lib.decodeL_N]; exact h)
  rw [← Lib.decodeL_N] at key
  have e : Lib.hasPrefix l fffdL = decide (2 < l.length ∧ (l.getD 0 0).toNat = 239 ∧ (l.getD 1 0).toNat = 191 ∧ (l.getD 2 0).toNat = 189) := by
    rcases l with _ | ⟨a, _ | ⟨b, _ | ⟨c, r⟩⟩⟩
    · rfl
    · simp [Lib.hasPrefix, fffdL, List.isPrefixOf]
    · simp [Lib.hasPrefix, fffdL, List.isPrefixOf]
    · have e1 : Lib.hasPrefix (a :: b :: c :: r) fffdL = (239 == a && (191 == b && 189 == c)) := by simp [Lib.hasPrefix, fffdL, List.isPrefixOf]
      rw [e1]
      simp only [List.getD_cons_zero, List.getD_cons_succ]
      by_cases h1 : a.toNat = 239
      · obtain rfl : a = 239 := UInt8.toNat_inj.1 h1
        by_cases h2 : b.toNat = 191
        · obtain rfl : b = 191 := UInt8.toNat_inj.1 h2
          by_cases h3 : c.toNat = 189
          · obtain rfl : c = 189 := UInt8.toNat_inj.1 h3
            simp
          · have : ¬ (189 : UInt8) = c := fun h => h3 (by rw [← h]; rfl)
            simp [h3, this]
        · have : ¬ (191 : UInt8) = b := fun h => h2 (by rw [← h]; rfl)
          simp [h2, this]
      · have : ¬ (239 : UInt8) = a := fun h => h1 (by rw [← h]; rfl)
        simp [h1, this]
  rw [e]
  exact decide_eq_decide.2 key.symm
theorem oddAt_end (f p : Nat) : oddAt f p [] = none := by cases f <;> simp [oddAt]
theorem oddAt_hit (f p : Nat) (l : List UInt8) (hne : l ≠ []) (h : oddB (Lib.decodeL l).1 (Lib.decodeL l).2 = true) : oddAt (f + 1) p l = some p := by rw [oddAt, if_neg hne, if_pos h]
theorem oddAt_miss (f p : Nat) (l : List UInt8) (hne : l ≠ []) (h : ¬ oddB (Lib.decodeL l).1 (Lib.decodeL l).2 = true) : oddAt (f + 1) p l = oddAt f (p + (Lib.decodeL l).2) (l.drop (Lib.decodeL l).2) := by rw [oddAt, if_neg hne, if_neg h]
end Go.Proofs.YticlgcfodlcpcaaGreatDoor
