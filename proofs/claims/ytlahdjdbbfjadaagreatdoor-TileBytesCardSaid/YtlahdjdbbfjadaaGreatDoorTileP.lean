/-
  Tiles' names, plain: a number by threes; what is read out of a name, as the reference reads it.
-/
import Derived.Test.YtlahdjdbbfjadaaGreatDoorNumP
namespace Go.Proofs.YtlahdjdbbfjadaaGreatDoor
open Go.RowKit

def padZ (d : List UInt8) : List UInt8 := List.replicate ((3 - d.length % 3) % 3) 48 ++ d
def thr : Nat → List UInt8 → List UInt8
  | 0, p => p
  | n + 1, p => 120 :: (p.take 3 ++ 47 :: thr n (p.drop 3))
def threesL (d : List UInt8) : List UInt8 := thr ((padZ d).length / 3 - 1) (padZ d)
def isDig (c : UInt8) : Prop := 48 ≤ c.toNat ∧ c.toNat ≤ 57
instance (c : UInt8) : Decidable (isDig c) := inferInstanceAs (Decidable (_ ∧ _))
def partL (W : Nat) : List UInt8 := if W < 256 then [46, 112, 47] ++ Lib.decDigits W else []
/-- A tile's name. -/
def nameT (L I W : Nat) : List UInt8 := [116, 105, 108, 101, 47] ++ (Lib.decDigits L ++ (47 :: (threesL (Lib.decDigits I) ++ partL W)))
/-- May a tile be? -/
def MayT (L I : Nat) (W : Int) : Prop := L ≤ 7 ∧ 1 ≤ W ∧ W ≤ 256 ∧ I < 36028797018963968 ∧ I * 256 + W.toNat ≤ 9223372036854775808 / 2 ^ (8 * L)
instance (L I : Nat) (W : Int) : Decidable (MayT L I W) := inferInstanceAs (Decidable (_ ∧ _))

theorem padZ_len (d : List UInt8) (h : d ≠ []) : (padZ d).length % 3 = 0 ∧ 3 ≤ (padZ d).length ∧ (padZ d).length = (d.length + 2) / 3 * 3 := by
  have : 0 < d.length := List.length_pos_iff.2 h
  simp only [padZ, List.length_append, List.length_replicate]
  omega
theorem dec_digs (u : Nat) : ∀ c ∈ Lib.decDigits u, isDig c := by
  induction u using Nat.strongRecOn with
  | _ u ih =>
    by_cases h10 : u < 10
    · rw [Lib.decDigits_one h10]
      intro c hc
      obtain rfl := List.mem_singleton.1 hc
      have := ofNat48 u h10
      unfold isDig
      omega
    · rw [decDigits_snoc h10]
      intro c hc
      rcases List.mem_append.1 hc with h | h
      · exact ih (u / 10) (by omega) c h
      · obtain rfl := List.mem_singleton.1 h
        have := ofNat48 (u % 10) (by omega)
        unfold isDig
        omega
theorem pad_digs {d : List UInt8} (h : ∀ c ∈ d, isDig c) : ∀ c ∈ padZ d, isDig c := by
  intro c hc
  rcases List.mem_append.1 hc with h' | h'
  · obtain rfl := List.eq_of_mem_replicate h'
    exact ⟨by decide, by decide⟩
  · exact h c h'
theorem thr_mem : ∀ (n : Nat) (p : List UInt8), (∀ c ∈ p, isDig c) → ∀ c ∈ thr n p, isDig c ∨ c = 120 ∨ c = 47
  | 0, _, h, c, hc => .inl (h c hc)
  | n + 1, p, h, c, hc => by
    simp only [thr, List.mem_cons, List.mem_append] at hc
    rcases hc with h1 | h1 | h1 | h1
    · exact .inr (.inl h1)
    · exact .inl (h c (List.mem_of_mem_take h1))
    · exact .inr (.inr h1)
    · exact thr_mem n (p.drop 3) (fun c hc => h c (List.mem_of_mem_drop hc)) c h1
theorem dig_ne {c k : UInt8} (h : isDig c) (hk : k.toNat < 48 ∨ 57 < k.toNat) : c ≠ k := by
  rintro rfl
  unfold isDig at h
  omega

/-- the bytes that are left, where x and / are taken out -/
def keepX (c : UInt8) : Bool := c != 120 && c != 47
theorem keep_dig {c : UInt8} (h : isDig c) : keepX c = true := by
  have h1 := dig_ne (k := 120) h (by decide)
  have h2 := dig_ne (k := 47) h (by decide)
  simp [keepX, h1, h2]
theorem filter_digs {p : List UInt8} (h : ∀ c ∈ p, isDig c) : p.filter keepX = p := List.filter_eq_self.2 fun c hc => keep_dig (h c hc)
theorem filter_thr : ∀ (n : Nat) (p : List UInt8), (∀ c ∈ p, isDig c) → (thr n p).filter keepX = p
  | 0, p, h => filter_digs h
  | n + 1, p, h => by
    have h1 := filter_digs (p := p.take 3) fun c hc => h c (List.mem_of_mem_take hc)
    have h2 := filter_thr n (p.drop 3) fun c hc => h c (List.mem_of_mem_drop hc)
    have k1 : keepX 120 = false := by decide
    have k2 : keepX 47 = false := by decide
    simp only [thr, List.filter_cons, List.filter_append, k1, k2, h1, h2, Bool.false_eq_true, if_false]
    exact List.take_append_drop 3 p
theorem filter_threes (d : List UInt8) (h : ∀ c ∈ d, isDig c) : (threesL d).filter keepX = padZ d := filter_thr _ _ (pad_digs h)
theorem drop_zeros : ∀ (k : Nat) (d : List UInt8), (List.replicate k 48 ++ d).dropWhile (· == 48) = d.dropWhile (· == 48)
  | 0, _ => rfl
  | k + 1, d => by
    rw [List.replicate_succ, List.cons_append, List.dropWhile_cons, if_pos (by decide)]
    exact drop_zeros k d
theorem trim_pad (u : Nat) : (padZ (Lib.decDigits u)).dropWhile (· == 48) = if u = 0 then [] else Lib.decDigits u := by
  unfold padZ
  rw [drop_zeros]
  split
  · rename_i h
    subst h
    rw [Lib.decDigits_one (by omega)]
    decide
  · rename_i h
    have hh := decDigits_head u (by omega)
    cases hd : Lib.decDigits u with
    | nil => rfl
    | cons c r =>
      rw [hd] at hh
      have hc : c ≠ 48 := fun e => hh (by rw [e]; rfl)
      rw [List.dropWhile_cons, if_neg (by simpa using hc)]

/-- digits, one behind the other, as a number, other bytes passed by -/
def digV : Nat → List UInt8 → Nat
  | n, [] => n
  | n, c :: r => digV (if isDig c then (n * 10 % 18446744073709551616 + (c.toNat - 48)) % 18446744073709551616 else n) r
theorem digV_cons (n : Nat) (c : UInt8) (r : List UInt8) : digV n (c :: r) = digV (if isDig c then (n * 10 % 18446744073709551616 + (c.toNat - 48)) % 18446744073709551616 else n) r := rfl
theorem digV_app : ∀ (l m : List UInt8) (n : Nat), digV n (l ++ m) = digV (digV n l) m
  | [], _, _ => rfl
  | c :: l, m, n => by rw [List.cons_append, digV_cons, digV_cons, digV_app l m]
theorem digV_lt : ∀ (l : List UInt8) (n : Nat), n < 18446744073709551616 → digV n l < 18446744073709551616
  | [], _, h => h
  | c :: l, n, h => by
    rw [digV_cons]
    refine digV_lt l _ ?_
    split
    · omega
    · exact h
theorem digV_pass {c : UInt8} (hc : ¬ isDig c) (n : Nat) (r : List UInt8) : digV n (c :: r) = digV n r := by rw [digV_cons, if_neg hc]
theorem digV_thr : ∀ (k : Nat) (p : List UInt8) (n : Nat), digV n (thr k p) = digV n p
  | 0, _, _ => rfl
  | k + 1, p, n => by
    have e : digV n p = digV (digV n (p.take 3)) (p.drop 3) := by rw [← digV_app, List.take_append_drop]
    rw [thr, digV_pass (by decide), digV_app, digV_pass (by decide), digV_thr k, e]
theorem digV_zeros : ∀ (k : Nat) (d : List UInt8), digV 0 (List.replicate k 48 ++ d) = digV 0 d
  | 0, _ => rfl
  | k + 1, d => by
    rw [List.replicate_succ, List.cons_append, digV_cons, if_pos (by decide)]
    exact digV_zeros k d
theorem digV_dec (u : Nat) (hu : u < 18446744073709551616) : digV 0 (Lib.decDigits u) = u := by
  induction u using Nat.strongRecOn with
  | _ u ih =>
    by_cases h10 : u < 10
    · rw [Lib.decDigits_one h10, digV_cons]
      have := ofNat48 u h10
      rw [if_pos (by unfold isDig; omega), this]
      show (0 * 10 % 18446744073709551616 + (48 + u - 48)) % 18446744073709551616 = u
      omega
    · rw [decDigits_snoc h10, digV_app, ih (u / 10) (by omega) (by omega), digV_cons]
      have := ofNat48 (u % 10) (by omega)
      rw [if_pos (by unfold isDig; omega), this]
      show (u / 10 * 10 % 18446744073709551616 + (48 + u % 10 - 48)) % 18446744073709551616 = u
      omega
theorem digV_threes (u : Nat) (hu : u < 18446744073709551616) (t : List UInt8) (ht : ∀ c ∈ t, ¬ isDig c) : digV 0 (threesL (Lib.decDigits u) ++ t) = u := by
  have h1 : ∀ (t : List UInt8) (n : Nat), (∀ c ∈ t, ¬ isDig c) → digV n t = n := by
    intro t
    induction t with
    | nil => intros; rfl
    | cons c t ih =>
      intro n h
      rw [digV_pass (h c (List.mem_cons_self ..))]
      exact ih n fun c hc => h c (List.mem_cons_of_mem _ hc)
  rw [digV_app, h1 _ _ ht, threesL, digV_thr, padZ, digV_zeros, digV_dec u hu]

/-- How the reference reads a name: its level, index and width. -/
def refL (s : List UInt8) : Nat := digV 0 ((s.drop 5).take 1)
def refI (s : List UInt8) : Nat := digV 0 ((s.drop 7).takeWhile (· != 112))
def refW (s : List UInt8) : Nat := if (s.drop 7).dropWhile (· != 112) = [] then 256 else digV 0 ((s.drop 7).dropWhile (· != 112)) % 1000
theorem refL_lt (s : List UInt8) : refL s ≤ 9 := by
  unfold refL
  match h : (s.drop 5).take 1 with
  | [] => simp [digV]
  | [c] =>
    rw [digV_cons]
    show (if isDig c then _ else 0) ≤ 9
    split
    · rename_i hd
      unfold isDig at hd
      omega
    · omega
  | c :: d :: r =>
    have := congrArg List.length h
    simp at this
    omega
theorem decL (L : Nat) (h : L ≤ 7) : Lib.decDigits L = [UInt8.ofNat (48 + L)] := Lib.decDigits_one (by omega)
theorem threes_no {d : List UInt8} (hd : ∀ c ∈ d, isDig c) {k : UInt8} (hk : k.toNat < 48 ∨ 57 < k.toNat) (h1 : k ≠ 120) (h2 : k ≠ 47) : ∀ c ∈ threesL d, c ≠ k := by
  intro c hc
  rcases thr_mem _ _ (pad_digs hd) c hc with h | rfl | rfl
  · exact dig_ne h hk
  · exact fun e => h1 e.symm
  · exact fun e => h2 e.symm
theorem read_name (L I : Nat) (W : Int) (h : MayT L I W) : refL (nameT L I W.toNat) = L ∧ refI (nameT L I W.toNat) = I ∧ ((refW (nameT L I W.toNat) : Nat) : Int) = W ∧ 8 ≤ (nameT L I W.toNat).length := by
  obtain ⟨hL, hW1, hW2, hI, _⟩ := h
  have hl := decL L hL
  have h48 := ofNat48 L (by omega)
  have hdig := dec_digs I
  have hd5 : (nameT L I W.toNat).drop 5 = UInt8.ofNat (48 + L) :: 47 :: (threesL (Lib.decDigits I) ++ partL W.toNat) := by rw [nameT, hl]; rfl
  have hd7 : (nameT L I W.toNat).drop 7 = threesL (Lib.decDigits I) ++ partL W.toNat := by rw [nameT, hl]; rfl
  have hno := threes_no hdig (k := 112) (by decide) (by decide) (by decide)
  have hall : ∀ c ∈ threesL (Lib.decDigits I), (c != 112) = true := fun c hc => by simpa using hno c hc
  have htk : (threesL (Lib.decDigits I) ++ partL W.toNat).takeWhile (· != 112) = threesL (Lib.decDigits I) ++ (partL W.toNat).takeWhile (· != 112) := List.takeWhile_append_of_pos hall
  have hdk : (threesL (Lib.decDigits I) ++ partL W.toNat).dropWhile (· != 112) = (partL W.toNat).dropWhile (· != 112) := List.dropWhile_append_of_pos hall
  refine ⟨?_, ?_, ?_, ?_⟩
  · unfold refL
    rw [hd5]
    show digV 0 [UInt8.ofNat (48 + L)] = L
    rw [← hl]
    exact digV_dec L (by omega)
  · unfold refI
    rw [hd7, htk]
    refine digV_threes I (by omega) _ ?_
    unfold partL
    split
    · intro c hc
      obtain rfl : c = 46 := by simpa [List.takeWhile] using hc
      decide
    · simp
  · unfold refW
    rw [hd7, hdk]
    unfold partL
    split
    · rename_i h256
      have e : ([46, 112, 47] ++ Lib.decDigits W.toNat).dropWhile (· != 112) = 112 :: 47 :: Lib.decDigits W.toNat := rfl
      rw [e, if_neg (by simp), digV_pass (by decide), digV_pass (by decide), digV_dec _ (by omega)]
      omega
    · rename_i h256
      rw [if_pos (by rfl)]
      omega
  · have hp := (padZ_len (Lib.decDigits I) (decDigits_ne I)).2.1
    have hth : 3 ≤ (threesL (Lib.decDigits I)).length := by
      have := congrArg List.length (filter_threes _ hdig)
      have h2 := List.length_filter_le keepX (threesL (Lib.decDigits I))
      omega
    rw [nameT, hl]
    simp
    omega
end Go.Proofs.YtlahdjdbbfjadaaGreatDoor
