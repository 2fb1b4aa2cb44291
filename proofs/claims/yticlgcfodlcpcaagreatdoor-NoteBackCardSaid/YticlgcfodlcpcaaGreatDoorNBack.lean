/-
  A text that is signed by some, opened by whoever knows them: in plain Lean. NoteBack's argument, opened: a list of those who sign. Those who are known, put into a list of one's own. The law NoteBack, walked.
-/
import Derived.Test.YticlgcfodlcpcaaGreatDoorNKnowsP
import Derived.Test.YticlgcfodlcpcaaGreatDoorNKnOpen
import Derived.Deep.Slices
import Derived.Deep.MidRow
namespace Go.Proofs.YticlgcfodlcpcaaGreatDoor
open Go.RowKit

/-- One who signs: the name, the secret, the height. -/
abbrev Sg := List UInt8 × List UInt8 × Nat
def sgL (t : List UInt8) (x : Sg) : List UInt8 × List UInt8 := sgLine x.2.1 x.2.2 0 t x.1
def sgK (x : Sg) : Kn := (x.1, knode x.2.1 x.2.2 0, (x.2.2 : Int))
theorem sgL_names (t : List UInt8) (SL : List Sg) : (SL.map (sgL t)).map Prod.fst = SL.map Prod.fst := by simp [sgL, sgLine]
theorem fnd_own : ∀ (SL : List Sg) (x : Sg), (SL.map Prod.fst).Nodup → x ∈ SL → fndK (SL.map sgK) x.1 = some (sgK x)
  | [], x, _, h => absurd h List.not_mem_nil
  | y :: r, x, hn, h => by
    rw [List.map_cons, List.nodup_cons] at hn
    unfold fndK
    rw [List.map_cons]
    rcases List.mem_cons.1 h with rfl | h
    · exact List.find?_cons_of_pos (decide_eq_true (show x.1 = x.1 from rfl))
    · rw [List.find?_cons_of_neg]
      · exact fnd_own r x hn.2 h
      · intro e
        have e2 : y.1 = x.1 := of_decide_eq_true e
        exact hn.1 (by rw [e2]; exact List.mem_map_of_mem h)
theorem open_known (t : List UInt8) (KL : List Kn) : ∀ (SL : List Sg), (∀ x ∈ SL, x.2.2 ≤ 6 ∧ fndK KL x.1 = some (sgK x)) → openL t KL (SL.map (sgL t)) = some (SL.map Prod.fst)
  | [], _ => by rw [List.map_nil, openL]; rfl
  | x :: r, h => by
    obtain ⟨h6, hf⟩ := h x (List.mem_cons_self ..)
    have ih := open_known t KL r fun y hy => h y (List.mem_cons_of_mem _ hy)
    have hh : holdsF t (sgK x) (sgL t x).2 = true := holds_sg x.2.1 h6 (Nat.two_pow_pos _) t x.1 x.1
    rw [List.map_cons, openL_yes (x := sgL t x) (k := sgK x) hf hh, ih]
    rfl
theorem open_unknown (t : List UInt8) (KL : List Kn) : ∀ (SL : List Sg), (∀ x ∈ SL, fndK KL x.1 = none) → openL t KL (SL.map (sgL t)) = some []
  | [], _ => by rw [List.map_nil, openL]
  | x :: r, h => by
    rw [List.map_cons, openL_no (x := sgL t x) (h x (List.mem_cons_self ..))]
    exact open_unknown t KL r fun y hy => h y (List.mem_cons_of_mem _ hy)
theorem fnd_single (k : Kn) (nm : List UInt8) : fndK [k] nm = if k.1 = nm then some k else none := by
  unfold fndK
  by_cases h : k.1 = nm
  · rw [if_pos h]
    simp [List.find?, h]
  · rw [if_neg h]
    simp [List.find?, h]
/-- Whoever knows one of them. -/
theorem open_single (t : List UInt8) (x : Sg) (h6 : x.2.2 ≤ 6) : ∀ (SL : List Sg), (SL.map Prod.fst).Nodup → x ∈ SL → openL t [sgK x] (SL.map (sgL t)) = some [x.1]
  | [], _, h => absurd h List.not_mem_nil
  | y :: r, hn, h => by
    rw [List.map_cons, List.nodup_cons] at hn
    rcases List.mem_cons.1 h with rfl | h
    · have hf : fndK [sgK x] (sgL t x).1 = some (sgK x) := by rw [fnd_single]; exact if_pos rfl
      have hh : holdsF t (sgK x) (sgL t x).2 = true := holds_sg x.2.1 h6 (Nat.two_pow_pos _) t x.1 x.1
      have hr : openL t [sgK x] (r.map (sgL t)) = some [] := open_unknown t _ r fun y hy => by
        rw [fnd_single]
        exact if_neg fun e => hn.1 (by rw [show x.1 = y.1 from e]; exact List.mem_map_of_mem hy)
      rw [List.map_cons, openL_yes (x := sgL t x) hf hh, hr]
      rfl
    · have hne : fndK [sgK x] (sgL t y).1 = none := by
        rw [fnd_single]
        exact if_neg fun e => hn.1 (by rw [← show x.1 = y.1 from e]; exact List.mem_map_of_mem h)
      rw [List.map_cons, openL_no (x := sgL t y) hne]
      exact open_single t x h6 r hn.2 h
/-- The note of those who have signed so far. -/
def noteOf (s : List UInt8) (SL : List Sg) : List UInt8 := if SL = [] then s else noteL s (SL.map (sgL s))
structure BkInv (s : List UInt8) (SL : List Sg) : Prop where
  may : SL ≠ [] → mayTxt s = true
  fine : ∀ x ∈ SL, nameOf x.1 = true ∧ x.2.2 ≤ 2
  apart : (SL.map Prod.fst).Nodup
theorem bk_nil (s : List UInt8) : BkInv s [] := ⟨fun h => absurd rfl h, fun _ h => absurd h List.not_mem_nil, List.nodup_nil⟩
theorem bk_fine {s : List UInt8} {SL : List Sg} (h : BkInv s SL) : ∀ x ∈ SL.map (sgL s), fineLn x := by
  intro x hx
  obtain ⟨y, hy, rfl⟩ := List.mem_map.1 hx
  have := h.fine y hy
  exact sg_fine y.2.1 (by omega) s this.1
theorem bk_len {s : List UInt8} {SL : List Sg} (h : BkInv s SL) (hm : mayTxt s = true) (h4 : SL.length ≤ 16) : (noteL s (SL.map (sgL s))).length ≤ 600000 := by
  have := noteL_len s (SL.map (sgL s)) 4000 (fun x hx => by
    obtain ⟨y, hy, rfl⟩ := List.mem_map.1 hx
    have := h.fine y hy
    exact sg_len y.2.1 (by omega) s this.1)
  have := may_len s hm
  rw [List.length_map] at *
  omega
theorem bk_text {s : List UInt8} {SL : List Sg} (h : BkInv s SL) (hne : SL ≠ []) (h4 : SL.length ≤ 16) : splitN (noteOf s SL) = ((s, SL.map (sgL s)), 0, none) := by
  unfold noteOf
  rw [if_neg hne]
  have hm := h.may hne
  have hl := bk_len h hm h4
  refine split_note s _ hm (bk_fine h) (by simpa using hne) (by rw [sgL_names]; exact h.apart) (by rw [List.length_map]; omega) (by omega)
theorem bk_ne {s : List UInt8} {SL : List Sg} {x : Sg} (h : BkInv s (SL ++ [x])) : x.1 ∉ SL.map Prod.fst := by
  have := h.apart
  rw [List.map_append, List.nodup_append] at this
  exact fun hx => this.2.2 _ hx x.1 (by simp) rfl
/-- One more signs, or is refused. -/
theorem bk_sign {s : List UInt8} {SL : List Sg} (h : BkInv s SL) (h4 : SL.length ≤ 3) (hno : (splitN s).2.1 ≠ 0) (nm sec : List UInt8) (ht : Nat) (h2 : ht ≤ 2) :
    (sgCode ht 0 (noteOf s SL) nm = 0 ∧ sgOut sec ht 0 (noteOf s SL) nm = noteOf s (SL ++ [(nm, sec, ht)]) ∧ BkInv s (SL ++ [(nm, sec, ht)]) ∧ nm ∉ SL.map Prod.fst ∧ nameOf nm = true) ∨
    (sgCode ht 0 (noteOf s SL) nm = 2 ∧ ¬ (nameOf nm = true ∧ nm ∉ SL.map Prod.fst ∧ SL ≠ [])) := by
  have hinv (hm : mayTxt s = true) (hna : nameOf nm = true) (hmet : nm ∉ SL.map Prod.fst) : BkInv s (SL ++ [(nm, sec, ht)]) := ⟨fun _ => hm, fun x hx => by
    rcases List.mem_append.1 hx with hx | hx
    · exact h.fine x hx
    · rw [List.mem_singleton.1 hx]; exact ⟨hna, h2⟩, by
    rw [List.map_append, List.nodup_append]
    refine ⟨h.apart, by simp, ?_⟩
    intro a ha b hb e
    rw [List.map_cons, List.map_nil, List.mem_singleton] at hb
    exact hmet (by rw [← show a = nm from e.trans hb]; exact ha)⟩
  by_cases hne : SL = []
  · subst hne
    have hn : noteOf s [] = s := if_pos rfl
    rw [hn, sg_codeH ht s nm hno]
    by_cases hyes : nameOf nm = true ∧ mayTxt s = true
    · rw [if_pos hyes]
      refine .inl ⟨rfl, ?_, hinv hyes.2 hyes.1 List.not_mem_nil, List.not_mem_nil, hyes.1⟩
      rw [(sg_code1 sec (Nat.two_pow_pos ht) hyes.2 hno hyes.1).2]
      rfl
    · rw [if_neg hyes]
      exact .inr ⟨rfl, fun h => h.2.2 rfl⟩
  · have hn : noteOf s SL = noteL s (SL.map (sgL s)) := if_neg hne
    have hm := h.may hne
    have hl := bk_len h hm (by omega)
    by_cases hna : nameOf nm = true
    · by_cases hmet : nm ∈ SL.map Prod.fst
      · refine .inr ⟨?_, fun h => h.2.1 hmet⟩
        have hs := bk_text h hne (by omega)
        have e : splitL (noteOf s SL) = some (noteOf s SL, s, SL.map (sgL s)) := by
          unfold splitL
          rw [hs]
          rfl
        have hany : ((SL.map (sgL s)).any fun y => decide (y.1 = nm)) = true := by
          rw [List.any_eq_true]
          obtain ⟨y, hy, hy2⟩ := List.mem_map.1 hmet
          exact ⟨sgL s y, List.mem_map_of_mem hy, decide_eq_true hy2⟩
        unfold sgCode
        rw [e, hna]
        simp only [hany]
        rw [if_neg (by simp), if_pos trivial]
      · have hmet' : nm ∉ (SL.map (sgL s)).map Prod.fst := by rw [sgL_names]; exact hmet
        have hs := sg_more sec (Nat.two_pow_pos ht) hm (bk_fine h) (by simpa using hne) (by rw [sgL_names]; exact h.apart) (by rw [List.length_map]; omega) (by omega) hna hmet'
        rw [hn]
        refine .inl ⟨hs.1, ?_, hinv hm hna hmet, hmet, hna⟩
        rw [hs.2]
        unfold noteOf
        rw [if_neg (by simp), List.map_append]
        rfl
    · refine .inr ⟨?_, fun h => hna h.1⟩
      unfold sgCode
      rw [show nameOf nm = false by simpa using hna]
      rfl
theorem bk_all {s : List UInt8} {SL : List Sg} (h : BkInv s SL) (hne : SL ≠ []) (h4 : SL.length ≤ 16) : openN (noteOf s SL) (SL.map sgK) = ((s, SL.map Prod.fst), 0, none) := by
  unfold openN
  rw [bk_text h hne h4]
  simp only
  rw [open_known s (SL.map sgK) SL fun x hx => ⟨by have := h.fine x hx; omega, fnd_own SL x h.apart hx⟩]
  rw [if_neg (by simp)]
  simp [hne]
theorem bk_one {s : List UInt8} {SL : List Sg} (h : BkInv s SL) (h4 : SL.length ≤ 16) {x : Sg} (hx : x ∈ SL) : openN (noteOf s SL) [sgK x] = ((s, [x.1]), 0, none) := by
  have hne : SL ≠ [] := fun e => by rw [e] at hx; cases hx
  unfold openN
  rw [bk_text h hne h4]
  simp only
  rw [open_single s x (by have := h.fine x hx; omega) SL h.apart hx]
  rw [if_neg (by simp)]
  simp
theorem bk_other {s : List UInt8} {SL : List Sg} (h : BkInv s SL) (hne : SL ≠ []) (h4 : SL.length ≤ 16) (k : Kn) (hk : k.1 ∉ SL.map Prod.fst) : openN (noteOf s SL) [k] = (([], []), 12, none) := by
  unfold openN
  rw [bk_text h hne h4]
  simp only
  rw [open_unknown s [k] SL fun x hx => by
    rw [fnd_single]
    exact if_neg fun e => hk (by rw [e]; exact List.mem_map_of_mem hx)]
  rw [if_neg (by simp)]
  simp
/-- A name that none of them has. -/
def passX (N : List (List UInt8)) (o : List UInt8) : List UInt8 := N.foldl (fun o nm => if nm = o then o ++ [120] else o) o
def manyX (N : List (List UInt8)) (o : List UInt8) : Nat → List UInt8
  | 0 => o
  | n + 1 => passX N (manyX N o n)
theorem passX_le : ∀ (N : List (List UInt8)) (o : List UInt8), o.length ≤ (passX N o).length ∧ (passX N o).length ≤ o.length + N.length
  | [], o => ⟨Nat.le_refl _, Nat.le_refl _⟩
  | x :: r, o => by
    show o.length ≤ (passX r (if x = o then o ++ [120] else o)).length ∧ (passX r (if x = o then o ++ [120] else o)).length ≤ o.length + (r.length + 1)
    have h := passX_le r (if x = o then o ++ [120] else o)
    split at h
    · rename_i e; rw [if_pos e]; rw [List.length_append, List.length_singleton] at h; omega
    · rename_i e; rw [if_neg e]; omega
theorem passX_same : ∀ (N : List (List UInt8)) (o : List UInt8), o ∉ N → passX N o = o
  | [], o, _ => rfl
  | x :: r, o, h => by
    rw [List.mem_cons, not_or] at h
    show passX r (if x = o then o ++ [120] else o) = o
    rw [if_neg fun e => h.1 e.symm]
    exact passX_same r o h.2
theorem passX_more : ∀ (N : List (List UInt8)) (o : List UInt8), o ∈ N → o.length < (passX N o).length
  | [], o, h => absurd h List.not_mem_nil
  | x :: r, o, h => by
    show o.length < (passX r (if x = o then o ++ [120] else o)).length
    by_cases e : x = o
    · rw [if_pos e]
      have := (passX_le r (o ++ [120])).1
      rw [List.length_append, List.length_singleton] at this
      omega
    · rw [if_neg e]
      rcases List.mem_cons.1 h with h | h
      · exact absurd h.symm e
      · exact passX_more r o h
def longX (N : List (List UInt8)) (n : Nat) : Nat := (N.filter fun x => decide (n ≤ x.length)).length
theorem longX_mono : ∀ (N : List (List UInt8)) (a b : Nat), a ≤ b → longX N b ≤ longX N a
  | [], _, _, _ => Nat.le_refl _
  | x :: r, a, b, h => by
    have ih := longX_mono r a b h
    unfold longX at *
    rw [List.filter_cons, List.filter_cons]
    by_cases hb : b ≤ x.length
    · rw [if_pos (decide_eq_true hb), if_pos (decide_eq_true (show a ≤ x.length by omega)), List.length_cons, List.length_cons]
      omega
    · rw [if_neg (by simpa using hb)]
      split
      · rw [List.length_cons]; omega
      · exact ih
theorem longX_lt : ∀ (N : List (List UInt8)) (o : List UInt8) (b : Nat), o ∈ N → o.length < b → longX N b < longX N o.length
  | [], o, _, h, _ => absurd h List.not_mem_nil
  | x :: r, o, b, h, hb => by
    unfold longX at *
    rw [List.filter_cons, List.filter_cons]
    rcases List.mem_cons.1 h with rfl | h
    · have ih := longX_mono r o.length b (by omega)
      unfold longX at ih
      rw [if_neg (by simp; omega), if_pos (by simp), List.length_cons]
      omega
    · have ih := longX_lt r o b h hb
      unfold longX at ih
      by_cases hx : b ≤ x.length
      · rw [if_pos (decide_eq_true hx), if_pos (decide_eq_true (show o.length ≤ x.length by omega)), List.length_cons, List.length_cons]
        omega
      · rw [if_neg (by simpa using hx)]
        split
        · rw [List.length_cons]; omega
        · exact ih
theorem manyX_comm (N : List (List UInt8)) (o : List UInt8) : ∀ n, manyX N (passX N o) n = manyX N o (n + 1)
  | 0 => rfl
  | n + 1 => by
    show passX N (manyX N (passX N o) n) = passX N (manyX N o (n + 1))
    rw [manyX_comm N o n]
theorem manyX_same (N : List (List UInt8)) (o : List UInt8) (h : o ∉ N) : ∀ n, manyX N o n = o
  | 0 => rfl
  | n + 1 => by
    show passX N (manyX N o n) = o
    rw [manyX_same N o h n, passX_same N o h]
theorem manyX_none (N : List (List UInt8)) : ∀ (n : Nat) (o : List UInt8), longX N o.length ≤ n → manyX N o n ∉ N
  | 0, o, h => fun hx => by
    have := longX_lt N o (o.length + 1) hx (by omega)
    omega
  | n + 1, o, h => by
    by_cases hx : o ∈ N
    · rw [← manyX_comm]
      refine manyX_none N n _ ?_
      have := longX_lt N o _ hx (passX_more N o hx)
      omega
    · rw [manyX_same N o hx]
      exact hx
theorem longX_le (N : List (List UInt8)) (n : Nat) : longX N n ≤ N.length := List.length_filter_le ..
theorem manyX_len (N : List (List UInt8)) (o : List UInt8) : ∀ n, (manyX N o n).length ≤ o.length + n * N.length
  | 0 => by simp [manyX]
  | n + 1 => by
    have h1 := manyX_len N o n
    have h2 := (passX_le N (manyX N o n)).2
    show (passX N (manyX N o n)).length ≤ _
    rw [Nat.succ_mul]
    omega
theorem passX_snoc (N : List (List UInt8)) (o x : List UInt8) : passX (N ++ [x]) o = if x = passX N o then passX N o ++ [120] else passX N o := by
  unfold passX
  rw [List.foldl_append]
  rfl
end Go.Proofs.YticlgcfodlcpcaaGreatDoor

namespace Go.Proofs.YticlgcfodlcpcaaGreatDoor
open Go.RowKit Go.ChangeShapes Go.WideShapes Go.ChangeAt Go.Deep

/-- One who signs, as the argument says: the name, the secret, the height's byte. -/
abbrev Sn := List UInt8 × List UInt8 × Nat
def snR (x : Sn) : List Value := snC x.1 x.2.1 x.2.2
def snOk (x : Sn) : Prop := x.2.1.length = 32 ∧ x.2.2 ≤ 255 ∧ x.1.length ≤ 140737488351232
def SnIn (W : World) (v : Value) (L : List Sn) : Prop := (∀ x ∈ L, snOk x) ∧ ∃ ao cap, v = .slice ao L.length cap ∧ (L ≠ [] → ∃ g o, ao = some ⟨g, o, none⟩ ∧ ∀ (i : Nat) x, L[i]? = some x → W.rangeAt g (o + i * 34) (snR x))
theorem SnIn.below {w w' : World} {v : Value} {L : List Sn} (h : SnIn w v L) (hb : Below w.heap.size w w') : SnIn w' v L := by
  obtain ⟨h1, ao, cap, rfl, h2⟩ := h
  refine ⟨h1, ao, cap, rfl, fun hne => ?_⟩
  obtain ⟨g, o, rfl, hr⟩ := h2 hne
  exact ⟨g, o, rfl, fun i x hx => range_below hb (hr i x hx)⟩
theorem weights_mem {H : Type} {P : Program} {e : TypeId} {p : Nat → Bool} : ∀ (l : List (DataW H)) (d : DataW H), d ∈ l → (DataW.weightsAll P e l).all p = true → (d.weights P e).all p = true
  | [], _, h, _ => absurd h List.not_mem_nil
  | x :: r, d, h, hz => by
    rw [DataW.weightsAll, List.all_append, Bool.and_eq_true] at hz
    rcases List.mem_cons.1 h with rfl | h
    · exact hz.1
    · exact weights_mem r d h hz.2
theorem snBytes : Tryz.prog.bytesOf 60 = 56 := by kernel_rfl
section
variable {H : Type} {enc : TypeId × Value → H} {W : World} {sp : Nat → Bool} {held : Bool}
set_option maxRecDepth 100000 in
theorem open_signers {b0 : Nat} {v : Value} {d : DataW H} {p : List MemPlace} (hv : Value.okWide Tryz.prog W .any b0 55 v) (h : DataW.Trod enc Tryz.prog W 0 sp held 55 v d p)
    (hz : (d.weights Tryz.prog 55).all (· ≤ reachBytes) = true) : ∃ L, SnIn W v L ∧ L.length ≤ 140737488351232 := by
  obtain ⟨ao, len, cap, rfl⟩ := okWide_slice Tryz.underlying55 hv
  obtain ⟨fuel, hf⟩ := h
  rcases open_slice Tryz.underlying55 hf with ⟨h0, _⟩ | ⟨a, len', cap', m, n, D, Pl, h0, hb, hl, hm, hmm, hx, hel⟩
  · have e : Value.slice ao len cap = .slice none 0 0 := by simpa [Value.cells] using h0
    rw [e]
    exact ⟨[], ⟨fun _ h => absurd h List.not_mem_nil, none, 0, rfl, fun h => absurd rfl h⟩, by simp⟩
  · have e : Value.slice ao len cap = .slice (some a) len' cap' := by simpa [Value.cells] using h0
    rw [e]
    have hlm : len' ≤ m := by rw [hmm]; split <;> omega
    simp only [Prod.mk.injEq] at hx
    rw [hx.1] at hz
    simp only [DataW.weights, Tryz.underlying55, List.all_cons, List.all_append, Bool.and_eq_true, List.length_map, List.length_range, snBytes] at hz
    obtain ⟨hz0, hz1, _⟩ := hz
    have hR' : ∀ i, i < len' → ∃ r : Sn, snOk r ∧ W.cells? 0 (a.add (i * 34)) 34 = some (snR r) := fun i hi => by
      obtain ⟨cs', h1, h2⟩ := hel i (by omega)
      rw [snCellsN] at h1
      obtain ⟨nm, sec, ht, a1, a2, _, rfl, d1, d2, e2⟩ := open_signerN h2
      have hw := weights_mem _ (D i) (List.mem_map_of_mem (List.mem_range.2 hi)) hz1
      have e3 : D i = .agg [.lit (.string nm.data.toList), d1, d2] := e2
      rw [e3] at hw
      obtain ⟨g0, g1, g2, hu, ⟨u0, _⟩, _⟩ := snUnder
      simp only [DataW.weights, hu, DataW.weightsEach, List.map_cons, u0, List.cons_append, List.nil_append, List.all_cons, Bool.and_eq_true, reachBytes] at hw
      exact ⟨(nm.data.toList, sec, ht), ⟨a1, a2, of_decide_eq_true hw.1⟩, h1⟩
    obtain ⟨R, hR⟩ := choose_lt hR'
    refine ⟨(List.range len').map R, ⟨fun x hx => ?_, some a, cap', by rw [List.length_map, List.length_range], fun hne => ?_⟩, ?_⟩
    · obtain ⟨i, hi, rfl⟩ := List.mem_map.1 hx
      exact (hR i (List.mem_range.1 hi)).1
    · have hpos : 0 < len' := by
        rcases Nat.eq_zero_or_pos len' with h0 | h0
        · exact absurd (by rw [h0]; rfl) hne
        · exact h0
      have hcell : ∀ i j, i < len' → j < 34 → W.cell? ((a.add (i * 34)).add j) = (snR (R i))[j]? := fun i j hi hj => (World.cells?_some (hR i hi).2).2.2 j hj
      have h34 : ∀ i, i < len' → (snR (R i)).length = 34 := fun i hi => snC_len (hR i hi).1.1
      have h00 : ∃ u, W.cell? ((a.add (0 * 34)).add 0) = some u := by
        rw [hcell 0 0 hpos (by omega)]
        exact ⟨_, List.getElem?_eq_getElem (by rw [h34 0 hpos]; omega)⟩
      obtain ⟨u, hu⟩ := h00
      have ha0 : a.add (0 * 34) = a := by unfold Addr.add; simp
      rw [ha0] at hu
      have hs : a.spot = none := by
        obtain ⟨b, o, spot⟩ := a
        cases spot with
        | none => rfl
        | some k =>
          simp only [Addr.add, if_pos, World.cell?] at hu
          split at hu
          · simp at hu
          · cases hu
      obtain ⟨g, o, s⟩ := a
      obtain rfl : s = none := hs
      refine ⟨g, o, rfl, fun i x hx j v hj => ?_⟩
      rw [List.getElem?_map] at hx
      obtain ⟨i', hi', rfl⟩ := Option.map_eq_some_iff.1 hx
      have hil : i < len' := by have := (List.getElem?_eq_some_iff.1 hi').1; rwa [List.length_range] at this
      obtain rfl : i = i' := by rw [List.getElem?_range hil] at hi'; exact Option.some.inj hi'
      have hj34 : j < 34 := by have := (List.getElem?_eq_some_iff.1 hj).1; rwa [h34 i hil] at this
      have hc := hcell i j hil hj34
      rw [Addr.add_mid, Addr.add_mid] at hc
      rw [hc]
      exact hj
    · rw [List.length_map, List.length_range]
      have := of_decide_eq_true hz0
      unfold reachBytes at this
      omega
end
set_option maxRecDepth 100000 in
theorem infoKnA : (Tryz.prog.info? 64).map (fun i => (i.zero, i.size, i.bytes)) = some (some (.agg (knC kz).toArray), 34, 56) := by kernel_rfl
theorem wpList_appendKn {ops : Array Oper} {rest : List Oper} {o : Oper} {a : Act} {W : World} {Q : Exit → Act → World → Prop} (hgd : o.guard = none) (s x : Operand)
    (ho : o.op = .call { callee := .builtin .append, args := #[s, x], argTypes := #[57, 57] }) {B m g cap : Nat} {v : Value} {xs : List Value} {k : Kn} (hk : k.2.1.length = 32)
    (hs : a.eval s = v) (hown : W.ownsRow B 64 34 v m xs) (hx : a.eval x = .slice (some ⟨g, 0, none⟩) 1 cap) (hr : W.heap[g]? = some (.cells (knC k).toArray 64 (0, 0))) (hm : m ≤ 1000) (hB : B ≤ W.heap.size)
    (h : ∀ v' W', W'.ownsRow B 64 34 v' (m + 1) (xs ++ knC k) → W.grownBy W' v.ownBlock → wpList Tryz.prog ops Q rest (a.put o.dst v') W') : wpList Tryz.prog ops Q (o :: rest) a W :=
  wpList_plain hgd fun K hK => by
    obtain ⟨i0, hi, hz⟩ := Option.map_eq_some_iff.1 infoKnA
    simp only [Prod.mk.injEq] at hz
    obtain ⟨hz0, hz1, hz2⟩ := hz
    obtain ⟨v', W', hr2, h2, h3, _, _⟩ := run_append_own_at (P := Tryz.prog) W B 57 o.type 64 i0 _ 34 56 Tryz.underlying57 hi hz0 hz1 hz2 (knC_size (k := kz) (by simp [kz])) (by decide) v m xs hown ⟨g, 0, none⟩ 1 cap (knC k) (by rw [knC_len hk]) (fun j u hj => by
      rw [Addr.add_mid, Nat.zero_add]
      exact cell_of hr j (by rw [← hj]; simp)) (fun u hu => by
        have := knC_one k
        rw [List.all_toArray, List.all_eq_true] at this
        exact this u hu) (by unfold maxLen; omega) (by omega) hB
    unfold Oper.wp execOp
    simp only [ho, resolve, invoke, builtin, Sem.run_bind, Sem.run_pure, Result.andThen_ok, List.map_toArray, List.map_cons, List.map_nil, hs, hx, hr2]
    exact hK _ _ (h v' W' h2 h3)
def ksC (KL : List Kn) : List Value := KL.flatMap knC
theorem ksC_snoc (KL : List Kn) (k : Kn) : ksC (KL ++ [k]) = ksC KL ++ knC k := by simp [ksC]
theorem ksC_at : ∀ (KL : List Kn) (i : Nat) (k : Kn), (∀ x ∈ KL, x.2.1.length = 32) → KL[i]? = some k → ∀ (j : Nat) v, (knC k)[j]? = some v → (ksC KL)[i * 34 + j]? = some v
  | [], i, k, _, h => by simp at h
  | x :: r, 0, k, hl, h => fun j v hj => by
    simp only [List.getElem?_cons_zero, Option.some.injEq] at h
    subst h
    unfold ksC
    rw [List.flatMap_cons, List.getElem?_append_left (by have := (List.getElem?_eq_some_iff.1 hj).1; omega), Nat.zero_mul, Nat.zero_add]
    exact hj
  | x :: r, i + 1, k, hl, h => fun j v hj => by
    have ih := ksC_at r i k (fun y hy => hl y (List.mem_cons_of_mem _ hy)) (by simpa using h) j v hj
    unfold ksC at ih ⊢
    have h34 := knC_len (hl x (List.mem_cons_self ..))
    rw [List.flatMap_cons, List.getElem?_append_right (by rw [h34, Nat.succ_mul]; omega), h34, show (i + 1) * 34 + j - 34 = i * 34 + j by omega]
    exact ih
theorem own_rangeB {W : World} {B n : Nat} {T : TypeId} {size : Nat} {v : Value} {xs : List Value} (h : W.ownsRow B T size v n xs) (hne : xs ≠ []) : ∃ g cap, v = .slice (some ⟨g, 0, none⟩) n cap ∧ W.rangeAt g 0 xs := by
  rcases h.2 with ⟨rfl, rfl⟩ | ⟨g, cap, cur, rfl, _, hg, _, _, _, htk⟩
  · have := h.1
    rw [Nat.zero_mul] at this
    exact absurd (List.eq_nil_of_length_eq_zero this) hne
  · refine ⟨g, cap, rfl, fun j u hj => ?_⟩
    rw [Nat.zero_add]
    refine cell_of hg j ?_
    rw [← htk, List.getElem?_take] at hj
    split at hj
    · rw [← Array.getElem?_toList]; exact hj
    · cases hj
theorem knIn_own {W : World} {B : Nat} {v : Value} {KL : List Kn} (h : W.ownsRow B 64 34 v KL.length (ksC KL)) (hl : ∀ x ∈ KL, x.2.1.length = 32) : KnIn W v KL := by
  by_cases hne : KL = []
  · subst hne
    obtain ⟨ao, c, rfl⟩ := own_form h
    exact ⟨ao, c, rfl, fun h => absurd rfl h⟩
  · have hne2 : ksC KL ≠ [] := by
      obtain ⟨x, r, rfl⟩ := List.exists_cons_of_ne_nil hne
      simp [ksC, knC]
    obtain ⟨g, cap, rfl, hr⟩ := own_rangeB h hne2
    refine ⟨_, cap, rfl, fun _ => ⟨g, rfl, fun i k hk j v hj => ?_⟩⟩
    have := hr (i * 34 + j) v (ksC_at KL i k hl hk j v hj)
    rwa [Nat.zero_add] at this
def txC (L : List (List UInt8)) : List Value := L.map fun x => .string ⟨x.toArray⟩
theorem textsIn_own {W : World} {B : Nat} {v : Value} {L : List (List UInt8)} (h : W.ownsRow B 9 1 v L.length (txC L)) : TextsIn W v L := by
  by_cases hne : L = []
  · subst hne
    obtain ⟨ao, c, rfl⟩ := own_form h
    exact ⟨ao, c, rfl, fun h => absurd rfl h⟩
  · obtain ⟨g, cap, rfl, hr⟩ := own_rangeB h (by simpa [txC] using hne)
    refine ⟨_, cap, rfl, fun _ => ⟨g, 0, rfl, fun k x hx => ?_⟩⟩
    have := hr k (.string ⟨x.toArray⟩) (by unfold txC; rw [List.getElem?_map, hx]; rfl)
    exact this
end Go.Proofs.YticlgcfodlcpcaaGreatDoor

namespace Go.Proofs.YticlgcfodlcpcaaGreatDoor
open Go.RowKit

def BelK (w0 : World) : Bool → World → Prop := fun _ W => Below w0.heap.size w0 W
theorem BelK.out {w0 W : World} {b : Bool} (h : BelK w0 b W) : Below w0.heap.size w0 W := h
/-- Till the list has grown; then nothing is asked. -/
def BelT (w0 w1 : World) : Bool → World → Prop := fun b W => if b then Below w0.heap.size w0 W else Below w1.heap.size w1 W
theorem step_sliceKnB {ops : Array Oper} {o : Oper} {a : Act} {K : Act → World → Prop} {Q : Exit → Act → World → Prop} {E : Prop} (hgd : o.guard = none) (x : Operand) (ho : o.op = .buildSlice 57 1 #[(0, x)])
    {W : World} (k : Kn) (hx : a.eval x = .agg (knC k).toArray) (hk : k.2.1.length = 32)
    (h : K (a.put o.dst (.slice (some ⟨W.heap.size, 0, none⟩) 1 1)) (W.alloc (.cells (knC k).toArray 64))) :
    if Region.wanted o (yielded ops a.tmps) = true then Oper.wp Tryz.prog o a W K Q else E := by
  have hw : Region.wanted o (yielded ops a.tmps) = true := by simp [Region.wanted, hgd]
  rw [if_pos hw]
  have hr := run_buildSlice_kn k hk W
  unfold Oper.wp execOp
  simp only [ho, List.map_toArray, List.map_cons, List.map_nil, hx, Sem.run_bind, hr, Result.andThen_ok, Sem.run_pure]
  exact h
theorem step_appendKn {ops : Array Oper} {o : Oper} {a : Act} {K : Act → World → Prop} {Q : Exit → Act → World → Prop} {E : Prop} (hgd : o.guard = none) (s x : Operand)
    (ho : o.op = .call { callee := .builtin .append, args := #[s, x], argTypes := #[57, 57] }) {W : World} {B m g cap : Nat} {v : Value} {xs : List Value} {k : Kn} (hk : k.2.1.length = 32)
    (hs : a.eval s = v) (hown : W.ownsRow B 64 34 v m xs) (hx : a.eval x = .slice (some ⟨g, 0, none⟩) 1 cap) (hr : W.heap[g]? = some (.cells (knC k).toArray 64 (0, 0))) (hm : m ≤ 1000) (hB : B ≤ W.heap.size)
    (h : ∀ v' W', W'.ownsRow B 64 34 v' (m + 1) (xs ++ knC k) → W.grownBy W' v.ownBlock → K (a.put o.dst v') W') :
    if Region.wanted o (yielded ops a.tmps) = true then Oper.wp Tryz.prog o a W K Q else E := by
  have hw : Region.wanted o (yielded ops a.tmps) = true := by simp [Region.wanted, hgd]
  rw [if_pos hw]
  obtain ⟨i0, hi, hz⟩ := Option.map_eq_some_iff.1 infoKnA
  simp only [Prod.mk.injEq] at hz
  obtain ⟨hz0, hz1, hz2⟩ := hz
  obtain ⟨v', W', hr2, h2, h3, _, _⟩ := run_append_own_at (P := Tryz.prog) W B 57 o.type 64 i0 _ 34 56 Tryz.underlying57 hi hz0 hz1 hz2 (knC_size (k := kz) (by simp [kz])) (by decide) v m xs hown ⟨g, 0, none⟩ 1 cap (knC k) (by rw [knC_len hk]) (fun j u hj => by
    rw [Addr.add_mid, Nat.zero_add]
    exact cell_of hr j (by rw [← hj]; simp)) (fun u hu => by
      have := knC_one k
      rw [List.all_toArray, List.all_eq_true] at this
      exact this u hu) (by unfold maxLen; omega) (by omega) hB
  unfold Oper.wp execOp
  simp only [ho, resolve, invoke, builtin, Sem.run_bind, Sem.run_pure, Result.andThen_ok, List.map_toArray, List.map_cons, List.map_nil, hs, hx, hr2]
  exact h v' W' h2 h3
theorem ownBelow {w w' : World} {B : Nat} {e : TypeId} {size : Nat} {v : Value} {n : Nat} {xs : List Value} (h : w.ownsRow B e size v n xs) (hb : Below w.heap.size w w') : w'.ownsRow B e size v n xs := rowKeepK h fun g hg => hb.block g (h.lt g hg).2
theorem ownBut {w w' : World} {B kb : Nat} {e : TypeId} {size : Nat} {v : Value} {n : Nat} {xs : List Value} (h : w.ownsRow B e size v n xs) (hb : But [kb] w w') (hne : v.ownBlock ≠ some kb) : w'.ownsRow B e size v n xs := rowKeepK h fun g hg => hb.block g (h.lt g hg).2 (by rw [List.mem_singleton]; rintro rfl; exact hne hg)
theorem own_apart {w : World} {B C : Nat} {e f : TypeId} {sz tz : Nat} {v u : Value} {n m : Nat} {xs ys : List Value} (h : w.ownsRow B e sz v n xs) (hu : w.ownsRow C f tz u m ys) (hne : e ≠ f) (g : Nat) (hg : v.ownBlock = some g) : u.ownBlock ≠ some g := fun hg2 => by
  rcases h.2 with ⟨rfl, _⟩ | ⟨g1, c1, cur, rfl, _, h1, _⟩
  · cases hg
  · rcases hu.2 with ⟨rfl, _⟩ | ⟨g2, c2, cur2, rfl, _, h2, _⟩
    · cases hg2
    · simp only [Value.ownBlock, Option.some.injEq] at hg hg2
      subst hg
      subst hg2
      rw [h1] at h2
      simp only [Option.some.injEq, Obj.cells.injEq] at h2
      exact hne h2.2.1
theorem ownGrown {w w' : World} {B C : Nat} {e f : TypeId} {sz tz : Nat} {v u : Value} {n m : Nat} {xs ys : List Value} (h : w.ownsRow B e sz v n xs) (hu : w.ownsRow C f tz u m ys) (hne : e ≠ f) (hg : w.grownBy w' u.ownBlock) : w'.ownsRow B e sz v n xs :=
  rowKeepK h fun g hgv => hg.block g (h.lt g hgv).2 (fun e2 => own_apart h hu hne g hgv e2.symm)
theorem kn_ne_str : ¬ (64 : TypeId) = 9 := by decide
theorem mem_take_succ {α : Type} {l : List α} {j : Nat} {x a : α} (h : l[j]? = some x) : (a ∈ l.take (j + 1)) ↔ (a ∈ l.take j ∨ a = x) := by
  rw [List.take_add_one, h]
  simp
theorem txC_at {L : List (List UInt8)} {j : Nat} {x : List UInt8} (h : L[j]? = some x) : (txC L)[j]? = some (.string ⟨x.toArray⟩) := by unfold txC; rw [List.getElem?_map, h]; rfl
theorem txC_snoc (L : List (List UInt8)) (x : List UInt8) : txC (L ++ [x]) = txC L ++ [.string ⟨x.toArray⟩] := by simp [txC]
theorem BelT.no {w0 w1 W : World} (h : BelT w0 w1 false W) : Below w1.heap.size w1 W := h
theorem BelT.start {w0 : World} (w1 : World) : BelT w0 w1 false w1 := Below.refl _ _
theorem BelT.any {w0 w1 W : World} (h : Below w0.heap.size w0 w1) (hS : ∃ b, BelT w0 w1 b W) : Below w0.heap.size w0 W := by
  obtain ⟨b, hb⟩ := hS
  cases b with
  | true => exact hb
  | false => exact h.trans ((BelT.no hb).mono h.size)
theorem KeyF.grown {w w' : World} {kb : Nat} {row : Option Nat} {s : List UInt8} {h nx : Nat} (hk : KeyF w kb s h nx) (hb : w.grownBy w' row) (hr : ∀ g, row = some g → g < kb) : KeyF w' kb s h nx := by
  obtain ⟨h6, lv, hk⟩ := hk
  obtain ⟨cs, hc, hC⟩ := hk.hp
  refine ⟨h6, lv, ⟨cs, (hb.block kb (lt_of_heap hc) (fun e => by have := hr kb e.symm; omega)).trans hc, hC⟩, hk.ls, fun t ht => rowKeepK (hk.own t ht) fun g hg => hb.block g ((hk.own t ht).lt g hg).2 (fun e => ?_), hk.sep⟩
  have h1 := ((hk.own t ht).lt g hg).1
  have h2 := hr g e.symm
  omega
theorem yieldsIf_buildKnB {ops : Array Oper} {S : World → Prop} {op : Oper} {a : Act} (hw : Region.wanted op (yielded ops a.tmps) = true) (x y z : Operand) (ho : op.op = .build 64 #[(0, x), (1, y), (2, z)])
    (nm H : List UInt8) (i : Int) (hx : a.eval x = .string ⟨nm.toArray⟩) (hy : a.eval y = .agg (Lib.byteCells H).toArray) (hz : a.eval z = .int .i64 i) (hH : H.length = 32) : YieldsIf Tryz.prog ops S op (.agg (knC (nm, H, i)).toArray) a :=
  .inl ⟨hw, fun w _ => by
    have hb := run_build (P := Tryz.prog) w 64 #[(0, .string ⟨nm.toArray⟩), (1, .agg (Lib.byteCells H).toArray), (2, .int .i64 i)] _ (built_known3 nm H hH i)
    unfold execOp
    simp only [ho, List.map_toArray, List.map_cons, List.map_nil, hx, hy, hz, Sem.run_bind, hb, Result.andThen_ok, Sem.run_pure]⟩
theorem catx (l : List UInt8) : (⟨l.toArray⟩ : ByteArray) ++ ⟨#[120]⟩ = ⟨(l ++ [120]).toArray⟩ := by
  apply ByteArray.ext
  simp
def BkR (s : List UInt8) (L : List Sn) (w : World) (kv nv sv iv : Value) (wr : World) : Prop :=
  ∃ (i : Nat) (SL : List Sg), iv = .int .i64 (i : Int) ∧ i ≤ L.length ∧ sv = .string ⟨(noteOf s SL).toArray⟩ ∧ SL.length ≤ i ∧ BkInv s SL ∧ wr.ownsRow w.heap.size 64 34 kv SL.length (ksC (SL.map sgK)) ∧ wr.ownsRow w.heap.size 9 1 nv SL.length (txC (SL.map Prod.fst)) ∧ Below w.heap.size w wr
def MetR (nm : List UInt8) (SL : List Sg) (w : World) (mv jv : Value) (wr : World) : Prop :=
  ∃ j : Nat, jv = .int .i64 (j : Int) ∧ j ≤ SL.length ∧ mv = .bool (decide (nm ∈ (SL.map Prod.fst).take j)) ∧ Below w.heap.size w wr
theorem note_len {s : List UInt8} {SL : List Sg} (h : BkInv s SL) (hs : s.length ≤ 140737488351232) (h4 : SL.length ≤ 16) : (noteOf s SL).length ≤ 140737488351232 := by
  unfold noteOf
  split
  · exact hs
  · rename_i hne
    have := bk_len h (h.may hne) h4
    omega
set_option maxHeartbeats 32000000 in
set_option maxRecDepth 100000 in
theorem back_any (S : Nat → Addr) (s : List UInt8) (sv : Value) (L : List Sn) (hs : s.length ≤ 140737488351232) (hL : L.length ≤ 140737488351232) (w : World) (hF : FW S w) (hsn : SnIn w sv L) :
    Calls Tryz.prog 4 #[.string ⟨s.toArray⟩, sv] w fun e w' => e = .returned (.bool true) ∧ Below w.heap.size w w' := by
  obtain ⟨hok, ao, cap, rfl, hr⟩ := hsn
  have HF := Lib.hid fun (W : World) (hW : Below w.heap.size w W) => hF.below hW
  have HLA := Lib.hid (fun (W W' : World) (hW : Below w.heap.size w W) (hW' : Below W.heap.size W W') => hW.trans (hW'.mono hW.size))
  have HAL := Lib.hid fun (W : World) (hW : Below w.heap.size w W) => alive_any S W (hF.below hW)
  have HS := Lib.hid hs
  by_cases h4 : L.length ≤ 4 ∧ L ≠ []
  · obtain ⟨h4, hne⟩ := h4
    obtain ⟨g, o, rfl, hr2⟩ := hr hne
    have hpos := List.length_pos_iff.2 hne
    have HOK := Lib.hid hok
    have HR := Lib.hid (fun (W : World) (hW : Below w.heap.size w W) (i : Nat) (x : Sn) (hx : L[i]? = some x) => (range_below hW (hr2 i x hx) : W.rangeAt g (o + i * 34) (snR x)))
    have HTX := Lib.hid (text_any S s (by omega) w hF.base)
    have l4 : (L.length : Int) ≤ 4 := by omega
    have l4b : ¬ (4 : Int) < (L.length : Int) := by omega
    have l0 : ¬ (L.length : Int) = 0 := by omega
    have l0b : ((L.length : Int) == 0) = false := by rw [beq_eq_false_iff_ne]; exact l0
    obtain ⟨A, hA⟩ : ∃ A, splitN s = A := ⟨_, rfl⟩
    rw [hA] at HTX
    obtain ⟨⟨t, TL⟩, c, p⟩ := A
    by_cases hc : c = 0
    · subst hc
      clear hF hA hr hr2 hok hs hL hne
      go_enter Tryz.func4, Tryz.ntmps4
      go_wp2_with (first | (go_at_call 16; refine HTX.out.mono ?_; rintro e w1 ⟨ev1, rfl, he1, hb1⟩; obtain rfl := ErrAt.zero2 he1 rfl; have HB1 := Lib.hid hb1; clear he1 hb1) | (go_at_call 7; refine (HAL.out _ HB1.out).mono ?_; rintro e w2 ⟨rfl, hb2⟩))
      go_ret
      exact ⟨rfl, HLA.out _ _ HB1.out hb2⟩
    · have hno : (splitN s).2.1 ≠ 0 := by rw [hA]; exact hc
      have HNO := Lib.hid hno
      have HKN := Lib.hid fun (sec : List UInt8) (h : Nat) (hs : sec.length = 32) (h2 : h ≤ 2) (W : World) (hW : Below w.heap.size w W) => keyNew_any S sec h hs (by omega) W (hF.below hW)
      have HFW := Lib.hid hF
      clear hF hA hr hr2 hok hs hL hne
      go_enter Tryz.func4, Tryz.ntmps4
      go_upto_region 4 with (go_at_call 16; refine HTX.out.mono ?_; rintro e w1 ⟨ev1, rfl, he1, hb1⟩; obtain ⟨TT, xx, rfl, _, hne⟩ := ErrAt.some5 he1 hc; have HB1 := Lib.hid hb1; clear he1 hb1)
      clear hc HTX
      go_wp2_with fail
      clear hne l4b l0 l0b
      go_loopw [7, 8, 9, 10] (fun kv nv sv iv wr => BkR s L w kv nv sv iv wr) (fun _ _ _ iv _ => L.length - (intOf iv).toNat)
      case atStart => exact ⟨0, [], rfl, Nat.zero_le _, rfl, Nat.zero_le _, bk_nil s, World.ownsRow_nil _ _ _ _, World.ownsRow_nil _ _ _ _, HB1.out⟩
      case round =>
        obtain ⟨i, SL, rfl, hi, rfl, hsl, hinv, hkr, hnr, hbel⟩ := hrel
        rename World => wr
        obtain ⟨kao, kcap, rfl⟩ := own_form hkr
        obtain ⟨nao, ncap, rfl⟩ := own_form hnr
        have HINV := Lib.hid hinv
        have HKR := Lib.hid hkr
        have HNR := Lib.hid hnr
        have HBE := Lib.hid hbel
        have HSL := Lib.hid hsl
        have i0 : (0 : Int) ≤ (i : Int) := by omega
        have n0 : (0 : Int) ≤ (SL.length : Int) := by omega
        clear hinv hkr hnr hbel
        by_cases hlt : i < L.length
        · obtain ⟨x, hx⟩ : ∃ x, L[i]? = some x := ⟨_, List.getElem?_eq_getElem hlt⟩
          obtain ⟨nm, sec, ht⟩ := x
          obtain ⟨hsec, hht, hnm⟩ := HOK.out _ (List.mem_of_getElem? hx)
          simp only at hsec hht hnm
          have HSEC := Lib.hid hsec
          have HNML := Lib.hid hnm
          obtain ⟨h, hh⟩ : ∃ h, ht % 3 = h := ⟨_, rfl⟩
          have h2 : h ≤ 2 := by omega
          have i1 : (i : Int) < (L.length : Int) := by omega
          have sl3 : SL.length ≤ 3 := by omega
          have sl4 : (SL.length : Int) ≤ 3 := by omega
          have HCW := Lib.hid (fun (W : World) (hW : Below w.heap.size w W) => (by
            have h := HR.out W hW i _ hx
            refine ⟨h 0 _ (snC_zero nm sec ht), ?_, snC_sec h⟩
            have h33 := h 33 _ (snC_ht hsec)
            exact h33 : W.cell? ⟨g, o + i * 34, none⟩ = some (.string ⟨nm.toArray⟩) ∧ W.cell? ⟨g, o + i * 34 + 33, none⟩ = some (.int .u8 (ht : Int)) ∧ W.rangeAt g (o + i * 34 + 1) (Lib.byteCells sec)))
          have HLT := Lib.hid hlt
          have HHH := Lib.hid hh
          have t0 : (0 : Int) ≤ (ht : Int) := by omega
          have t1 : (ht : Int) ≤ 255 := by omega
          have t2 : (ht : Int) % 3 = (h : Int) := by omega
          have t3 : (ht : Int).tmod 3 = (h : Int) := by rw [Int.tmod_eq_emod_of_nonneg t0]; exact t2
          have t4 : IntKind.i64.wrap (h : Int) = (h : Int) := by rw [IntKind.wrap_i64]; omega
          obtain ⟨c0, c33, hsecr⟩ := HCW.out _ HBE.out
          have HXS := Lib.hid hsecr
          clear hx hsec hht hnm hh hlt hi hsl hsecr
          have glt : g < wr.heap.size := lt_of_cell c0
          go_wp2_with fail
          refine wp_region_till 100 (BelK wr.drew) (by kernel_rfl) (Below.refl _ _) (fun hHeld => ?_)
          have HBD := Lib.hid (HBE.out.trans ((Below.refl wr.heap.size wr).drew.mono HBE.out.size))
          have HWD := Lib.hid ((Below.refl wr.heap.size wr).drew)
          generalize wr.drew = wd at *
          refine wpAnyT_take (i := 0) (v := .slice (some ⟨g, o, none⟩) L.length cap) rfl (by decide) (by kernel_rfl) (by kernel_rfl) (by kernel_rfl) (fun _ _ _ h => h) (Or.inl ⟨by rfl, fun w _ => ?_⟩) hHeld ?_
          · go_simp
          simp only [List.getElem_toArray, List.getElem_cons_zero, Act.put, List.setIfInBounds_toArray, List.set_cons_zero, List.set_cons_succ]
          refine wpAnyT_take (i := 1) (v := .int .i64 (i : Int)) rfl (by decide) (by kernel_rfl) (by kernel_rfl) (by kernel_rfl) (fun _ _ _ h => h) (Or.inl ⟨by rfl, fun w _ => ?_⟩) hHeld ?_
          · go_simp
          simp only [List.getElem_toArray, List.getElem_cons_succ, List.getElem_cons_zero, Act.put, List.setIfInBounds_toArray, List.set_cons_zero, List.set_cons_succ]
          refine wpAnyT_take (i := 2) (v := .pointer (some ⟨g, o + i * 34, none⟩)) rfl (by decide) (by kernel_rfl) (by kernel_rfl) (by kernel_rfl) (fun _ _ _ h => h) (Or.inl ⟨by rfl, fun w _ => ?_⟩) hHeld ?_
          · go_simp
          simp only [List.getElem_toArray, List.getElem_cons_succ, List.getElem_cons_zero, Act.put, List.setIfInBounds_toArray, List.set_cons_zero, List.set_cons_succ]
          refine wpAnyT_take (i := 3) (v := .pointer (some ⟨g, o + i * 34 + 1, none⟩)) rfl (by decide) (by kernel_rfl) (by kernel_rfl) (by kernel_rfl) (fun _ _ _ h => h) (Or.inl ⟨by rfl, fun w _ => ?_⟩) hHeld ?_
          · go_simp
          simp only [List.getElem_toArray, List.getElem_cons_succ, List.getElem_cons_zero, Act.put, List.setIfInBounds_toArray, List.set_cons_zero, List.set_cons_succ]
          refine wpAnyT_take (i := 4) (v := hv sec) rfl (by decide) (by kernel_rfl) (by kernel_rfl) (by kernel_rfl) (fun _ _ _ h => h) (yieldsIf_load_mid (by rfl) 23 (.tmp 53) (by rfl) g (o + i * 34 + 1) (by rfl) (Lib.byteCells sec) _ (fun W ⟨_, h⟩ => (HCW.out W (HBD.out.trans ((BelK.out h).mono HBD.out.size))).2.2) Tryz.underlying23 rfl (by rw [Lib.byteCells_length, HSEC.out]; exact hashInfo)) hHeld ?_
          simp only [List.getElem_toArray, List.getElem_cons_succ, List.getElem_cons_zero, Act.put, List.setIfInBounds_toArray, List.set_cons_zero, List.set_cons_succ]
          refine wpAnyT_take (i := 5) (v := .slice (some ⟨g, o, none⟩) L.length cap) rfl (by decide) (by kernel_rfl) (by kernel_rfl) (by kernel_rfl) (fun _ _ _ h => h) (Or.inl ⟨by rfl, fun w _ => ?_⟩) hHeld ?_
          · go_simp
          simp only [List.getElem_toArray, List.getElem_cons_succ, List.getElem_cons_zero, Act.put, List.setIfInBounds_toArray, List.set_cons_zero, List.set_cons_succ]
          refine wpAnyT_take (i := 6) (v := .int .i64 (i : Int)) rfl (by decide) (by kernel_rfl) (by kernel_rfl) (by kernel_rfl) (fun _ _ _ h => h) (Or.inl ⟨by rfl, fun w _ => ?_⟩) hHeld ?_
          · go_simp
          simp only [List.getElem_toArray, List.getElem_cons_succ, List.getElem_cons_zero, Act.put, List.setIfInBounds_toArray, List.set_cons_zero, List.set_cons_succ]
          refine wpAnyT_take (i := 7) (v := .pointer (some ⟨g, o + i * 34, none⟩)) rfl (by decide) (by kernel_rfl) (by kernel_rfl) (by kernel_rfl) (fun _ _ _ h => h) (Or.inl ⟨by rfl, fun w _ => ?_⟩) hHeld ?_
          · go_simp
          simp only [List.getElem_toArray, List.getElem_cons_succ, List.getElem_cons_zero, Act.put, List.setIfInBounds_toArray, List.set_cons_zero, List.set_cons_succ]
          refine wpAnyT_take (i := 8) (v := .pointer (some ⟨g, o + i * 34 + 33, none⟩)) rfl (by decide) (by kernel_rfl) (by kernel_rfl) (by kernel_rfl) (fun _ _ _ h => h) (Or.inl ⟨by rfl, fun w _ => ?_⟩) hHeld ?_
          · go_simp
          simp only [List.getElem_toArray, List.getElem_cons_succ, List.getElem_cons_zero, Act.put, List.setIfInBounds_toArray, List.set_cons_zero, List.set_cons_succ]
          refine wpAnyT_take (i := 9) (v := .int .u8 (ht : Int)) rfl (by decide) (by kernel_rfl) (by kernel_rfl) (by kernel_rfl) (fun _ _ _ h => h) (Or.inl ⟨by rfl, fun w hSw => ?_⟩) hHeld ?_
          · obtain ⟨b, hb⟩ := hSw; have c := (HCW.out _ (HBD.out.trans ((BelK.out hb).mono HBD.out.size))).2.1
            go_simp
          simp only [List.getElem_toArray, List.getElem_cons_succ, List.getElem_cons_zero, Act.put, List.setIfInBounds_toArray, List.set_cons_zero, List.set_cons_succ]
          refine wpAnyT_take (i := 10) (v := .int .u8 (h : Int)) rfl (by decide) (by kernel_rfl) (by kernel_rfl) (by kernel_rfl) (fun _ _ _ h => h) (Or.inl ⟨by rfl, fun w _ => ?_⟩) hHeld ?_
          · go_simp
          simp only [List.getElem_toArray, List.getElem_cons_succ, List.getElem_cons_zero, Act.put, List.setIfInBounds_toArray, List.set_cons_zero, List.set_cons_succ]
          refine wpAnyT_take (i := 11) (v := .int .i64 (h : Int)) rfl (by decide) (by kernel_rfl) (by kernel_rfl) (by kernel_rfl) (fun _ _ _ h => h) (Or.inl ⟨by rfl, fun w _ => ?_⟩) hHeld ?_
          · go_simp
          simp only [List.getElem_toArray, List.getElem_cons_succ, List.getElem_cons_zero, Act.put, List.setIfInBounds_toArray, List.set_cons_zero, List.set_cons_succ]
          refine wpAnyT_ready (rs := [12]) (by kernel_rfl) (by simp) ?_
          refine AllReadyT.cons false rfl (by kernel_rfl) (fun K hK => ?_) AllReadyT.nil
          go_simp
          refine (HKN.out sec h HSEC.out h2 _ HBD.out).mono ?_
          rintro e w4 ⟨kb, lv, rfl, hkb, hk, hb4⟩
          go_wp2_with fail
          refine hK.out _ _ hb4 (fun hHeld => ?_)
          clear hK K
          refine wpAnyT_take (i := 13) (v := .tuple #[.pointer (some ⟨kb, 0, none⟩), .nilIface]) rfl (by decide) (by kernel_rfl) (by kernel_rfl) (by kernel_rfl) (fun _ _ _ h => h) (Or.inl ⟨by rfl, fun w _ => ?_⟩) hHeld ?_
          · go_simp
          simp only [List.getElem_toArray, List.getElem_cons_succ, List.getElem_cons_zero, Act.put, List.setIfInBounds_toArray, List.set_cons_zero, List.set_cons_succ]
          refine wpAnyT_take (i := 14) (v := .pointer (some ⟨kb, 0, none⟩)) rfl (by decide) (by kernel_rfl) (by kernel_rfl) (by kernel_rfl) (fun _ _ _ h => h) (Or.inl ⟨by rfl, fun w _ => ?_⟩) hHeld ?_
          · go_simp
          simp only [List.getElem_toArray, List.getElem_cons_succ, List.getElem_cons_zero, Act.put, List.setIfInBounds_toArray, List.set_cons_zero, List.set_cons_succ]
          refine wpAnyT_take (i := 15) (v := .nilIface) rfl (by decide) (by kernel_rfl) (by kernel_rfl) (by kernel_rfl) (fun _ _ _ h => h) (Or.inl ⟨by rfl, fun w _ => ?_⟩) hHeld ?_
          · go_simp
          simp only [List.getElem_toArray, List.getElem_cons_succ, List.getElem_cons_zero, Act.put, List.setIfInBounds_toArray, List.set_cons_zero, List.set_cons_succ]
          refine wpAnyT_take (i := 16) (v := .pointer (some ⟨kb, 0, none⟩)) rfl (by decide) (by kernel_rfl) (by kernel_rfl) (by kernel_rfl) (fun _ _ _ h => h) (Or.inl ⟨by rfl, fun w _ => ?_⟩) hHeld ?_
          · go_simp
          simp only [List.getElem_toArray, List.getElem_cons_succ, List.getElem_cons_zero, Act.put, List.setIfInBounds_toArray, List.set_cons_zero, List.set_cons_succ]
          refine wpAnyT_take (i := 17) (v := .nilIface) rfl (by decide) (by kernel_rfl) (by kernel_rfl) (by kernel_rfl) (fun _ _ _ h => h) (Or.inl ⟨by rfl, fun w _ => ?_⟩) hHeld ?_
          · go_simp
          simp only [List.getElem_toArray, List.getElem_cons_succ, List.getElem_cons_zero, Act.put, List.setIfInBounds_toArray, List.set_cons_zero, List.set_cons_succ]
          refine wpAnyT_done (by kernel_rfl) ?_ _
          go_upto_region 13 with fail
          have hkb := Nat.le_trans HWD.out.size hkb
          have hb4 := HWD.out.trans (hb4.mono HWD.out.size)
          clear glt
          have HB4 := Lib.hid (HLA.out _ _ HBE.out hb4)
          have HKB := Lib.hid (Nat.le_trans HBE.out.size hkb)
          have HKF := Lib.hid (show KeyF w4 kb sec h 0 from ⟨by omega, lv, hk⟩)
          have HKK := Lib.hid (fun g hg => (show g ≠ kb from fun e => by have := (HKR.out.lt g hg).2; omega))
          have HKNL := Lib.hid (fun g hg => (show g < kb from by have := (HNR.out.lt g hg).2; omega))
          have HKNN := Lib.hid (fun g hg => (show g ≠ kb from fun e => by have := (HNR.out.lt g hg).2; omega))
          have HKR4 := Lib.hid (ownBelow HKR.out hb4)
          have HNR4 := Lib.hid (ownBelow HNR.out hb4)
          clear hkb hk hb4 HXS c0 c33 t3 HKR HNR HBE
          obtain ⟨P, hP⟩ : ∃ P, 2 ^ h = P := ⟨_, rfl⟩
          have hP1 : 1 ≤ P := by rw [← hP]; exact Nat.two_pow_pos h
          have HLE := Lib.hid (fun (n : Nat) (hn : n ≤ 2 ^ h) (W : World) (hk : KeyF W kb sec h n) => keyLeft_any kb sec h n hn W hk)
          rw [hP] at HLE
          have HL0 := Lib.hid (fun (W : World) (hk : KeyF W kb sec h 0) => (HLE.out 0 (Nat.zero_le _) W hk : Calls Tryz.prog 14 #[.pointer (some ⟨kb, 0, none⟩)] W fun e w' => e = .returned (.int .i64 (P : Int)) ∧ Below W.heap.size W w'))
          have HL1 := Lib.hid (fun (W : World) (hk : KeyF W kb sec h 1) => (by
            have h := HLE.out 1 hP1 W hk
            rwa [show ((P - 1 : Nat) : Int) = (P : Int) - 1 by omega] at h : Calls Tryz.prog 14 #[.pointer (some ⟨kb, 0, none⟩)] W fun e w' => e = .returned (.int .i64 ((P : Int) - 1)) ∧ Below W.heap.size W w'))
          have p0 : (1 : Int) ≤ (P : Int) := by omega
          have p1 : (P : Int) ≤ 4 := by
            have : 2 ^ h ≤ 2 ^ 2 := Nat.pow_le_pow_right (by omega) h2
            omega
          clear HLE hP1 hP
          go_wp2_with (go_at_call 14; refine (HL0.out _ HKF.out).mono ?_; rintro e w5 ⟨rfl, hb5⟩; have HB5 := Lib.hid (HLA.out _ _ HB4.out hb5); have HKF5 := Lib.hid (HKF.out.below hb5); have HKR5 := Lib.hid (ownBelow HKR4.out hb5); have HNR5 := Lib.hid (ownBelow HNR4.out hb5); clear hb5)
          clear HKF HKR4 HNR4 HB4
          go_loopw [14, 15] (fun mv jv wq => MetR nm SL w5 mv jv wq) (fun _ jv _ => SL.length - (intOf jv).toNat)
          case atStart => exact ⟨0, rfl, Nat.zero_le _, by simp, Below.refl _ _⟩
          case round =>
            obtain ⟨j, rfl, hj, rfl, hbq⟩ := hrel
            rename World => wq
            have HBQ := Lib.hid hbq
            have j0 : (0 : Int) ≤ (j : Int) := by omega
            by_cases hjl : j < SL.length
            · have j1 : (j : Int) < (SL.length : Int) := by omega
              obtain ⟨y, hy⟩ : ∃ y, (SL.map Prod.fst)[j]? = some y := ⟨_, List.getElem?_eq_getElem (by rw [List.length_map]; exact hjl)⟩
              have hm := mem_take_succ (a := nm) hy
              obtain ⟨gn, cap2, he, hrn⟩ := own_rangeB HNR5.out (fun e => by
                have := HNR5.out.1
                rw [e] at this
                simp at this
                omega)
              cases he
              have cj : wq.cell? ⟨gn, j, none⟩ = some (.string ⟨y.toArray⟩) := by
                have h := below_cell HBQ.out (hrn j _ (txC_at hy))
                rwa [Nat.zero_add] at h
              obtain ⟨c0, c33, hsecr⟩ := HCW.out _ (HLA.out _ _ HB5.out HBQ.out)
              have HJL := Lib.hid hjl
              have HMM := Lib.hid hm
              clear hrn hy hsecr hj hjl hm hbq
              by_cases hin : nm ∈ (SL.map Prod.fst).take j
              · rw [decide_eq_true hin]
                have HM2 := Lib.hid (show decide (nm ∈ (SL.map Prod.fst).take (j + 1)) = true from decide_eq_true (HMM.out.2 (.inl hin)))
                clear hin
                go_wp2_with fail
                go_quiet (fail)
                go_wp2_with fail
                refine ⟨⟨j + 1, by go_num, HJL.out, by rw [HM2.out], ?_⟩, by have := HJL.out; simp [intOf]; omega⟩
                first | exact HBQ.out | exact below_drewN HBQ.out _
              · rw [decide_eq_false hin]
                have hq := str_eqL y nm
                by_cases hnm : y = nm
                · have hq2 : ((⟨y.toArray⟩ : ByteArray).toList == (⟨nm.toArray⟩ : ByteArray).toList) = true := by rw [hq]; exact decide_eq_true hnm
                  have hq3 : (y == nm) = true := by simpa using hnm
                  have HM2 := Lib.hid (show decide (nm ∈ (SL.map Prod.fst).take (j + 1)) = true from decide_eq_true (HMM.out.2 (.inr hnm.symm)))
                  clear hq hnm hin
                  go_wp2_with fail
                  go_quiet (fail)
                  go_wp2_with fail
                  refine ⟨⟨j + 1, by go_num, HJL.out, by rw [HM2.out], ?_⟩, by have := HJL.out; simp [intOf]; omega⟩
                  first | exact HBQ.out | exact below_drewN HBQ.out _
                · have hq2 : ((⟨y.toArray⟩ : ByteArray).toList == (⟨nm.toArray⟩ : ByteArray).toList) = false := by rw [hq]; exact decide_eq_false hnm
                  have hq3 : (y == nm) = false := by simpa using hnm
                  have HM2 := Lib.hid (show decide (nm ∈ (SL.map Prod.fst).take (j + 1)) = false from decide_eq_false (fun h => by
                    rcases HMM.out.1 h with h | h
                    · exact hin h
                    · exact hnm h.symm))
                  clear hq hnm hin
                  go_wp2_with fail
                  go_quiet (fail)
                  go_wp2_with fail
                  refine ⟨⟨j + 1, by go_num, HJL.out, by rw [HM2.out], ?_⟩, by have := HJL.out; simp [intOf]; omega⟩
                  first | exact HBQ.out | exact below_drewN HBQ.out _
            · obtain rfl : j = SL.length := by omega
              have j1 : ¬ (SL.length : Int) < (SL.length : Int) := by omega
              rw [show (SL.map Prod.fst).take SL.length = SL.map Prod.fst from List.take_of_length_le (by rw [List.length_map]; exact Nat.le_refl _)]
              have HB6 := Lib.hid (HLA.out _ _ HB5.out hbq)
              have HKF6 := Lib.hid (HKF5.out.below hbq)
              have HKR6 := Lib.hid (ownBelow HKR5.out hbq)
              have HNR6 := Lib.hid (ownBelow HNR5.out hbq)
              clear HB5 HKF5 HKR5 HNR5 hbq HBQ hj hjl
              obtain ⟨c0, c33, hsecr⟩ := HCW.out _ HB6.out
              clear hsecr
              have HNL := Lib.hid (note_len HINV.out HS.out (by omega))
              have HSG := Lib.hid (nsign_any S kb sec h 0 (Nat.zero_le _) (noteOf s SL) nm (by have := HNL.out; omega) (by have := HNML.out; omega) w wq HFW.out HB6.out HKB.out HKF6.out)
              have HCASE := Lib.hid (bk_sign HINV.out sl3 HNO.out nm sec h h2)
              rcases HCASE.out with hyes | hnot
              · obtain ⟨hc0, hout, hinv2, hmet, hna⟩ := hyes
                have HM2 := Lib.hid hmet
                rw [decide_eq_false hmet]
                have HNA := Lib.hid fun (W : World) (hW : Below w.heap.size w W) => name_any S ⟨nm.toArray⟩ W (by have := HNML.out; show nm.toArray.size ≤ _; simp; omega) (HFW.out.below hW).base
                rw [show (⟨nm.toArray⟩ : ByteArray).data.toList = nm from rfl, hna] at HNA
                have hbt := bk_text hinv2 (by simp) (by rw [List.length_append, List.length_singleton]; omega)
                have hnl2 := note_len hinv2 HS.out (by rw [List.length_append, List.length_singleton]; omega)
                have e1 : (SL ++ [(nm, sec, h)]).length = SL.length + 1 := by rw [List.length_append, List.length_singleton]
                have e2 : ksC ((SL ++ [(nm, sec, h)]).map sgK) = ksC (SL.map sgK) ++ knC (nm, knode sec h 0, (h : Int)) := by rw [List.map_append]; exact ksC_snoc _ _
                have e3 : txC ((SL ++ [(nm, sec, h)]).map Prod.fst) = txC (SL.map Prod.fst) ++ [.string ⟨nm.toArray⟩] := by rw [List.map_append]; exact txC_snoc _ _
                have HKL := Lib.hid (knode_len sec h 0)
                have HPU := Lib.hid (fun (W : World) (hk : KeyF W kb sec h 1) => keyPublic_any kb sec h 1 W hk)
                obtain ⟨N2, hN2⟩ : ∃ N, noteOf s (SL ++ [(nm, sec, h)]) = N := ⟨_, rfl⟩
                rw [hN2] at hout hbt hnl2
                obtain ⟨SL2, hSL2⟩ : ∃ S, SL ++ [(nm, sec, h)] = S := ⟨_, rfl⟩
                rw [hSL2] at e1 e2 e3 hbt hinv2 hN2
                obtain ⟨KP, hKP⟩ : ∃ K, knode sec h 0 = K := ⟨_, rfl⟩
                rw [hKP] at e2 HPU HKL
                have HTX2 := Lib.hid (fun (W : World) (hW : Below w.heap.size w W) => (by
                  have h := text_any S N2 (by omega) W (HFW.out.below hW).base
                  rw [hbt] at h
                  refine h.mono ?_
                  rintro e w2 ⟨ev, rfl, h1, h2⟩
                  obtain rfl := ErrAt.zero2 h1 rfl
                  exact ⟨rfl, h2⟩ : Calls Tryz.prog 16 #[.string ⟨N2.toArray⟩] W fun e w2 => e = .returned (.tuple #[.string ⟨s.toArray⟩, .nilIface]) ∧ Below W.heap.size W w2))
                have HSG0 := Lib.hid (HSG.out.mono (fun e w' (hh : SgPost S w wq kb sec h 0 (noteOf s SL) nm e w') => (by
                  obtain ⟨ev, rfl, h1, h2, h3, h4⟩ := hh
                  rw [hc0] at h1 h2 ⊢
                  rw [hout]
                  obtain rfl := ErrAt.zero2 h1 rfl
                  exact ⟨rfl, h2, h3, h4⟩ : e = .returned (.tuple #[.string ⟨N2.toArray⟩, .nilIface]) ∧ KeyF w' kb sec h 1 ∧ But [kb] wq w' ∧ Below w.heap.size w w')))
                have HE1 := Lib.hid e1
                have HE2 := Lib.hid e2
                have HE3 := Lib.hid e3
                have HINV2 := Lib.hid hinv2
                have HN2 := Lib.hid hN2
                have HCX := Lib.hid (fun (W : World) (hW : Below w.heap.size w W) => (HCW.out W hW).1)
                have HCT := Lib.hid (fun (W : World) (hW : Below w.heap.size w W) => (HCW.out W hW).2.1)
                clear HSG HCASE hc0 hout hinv2 hmet hna hbt hnl2 e1 e2 e3 hSL2 hN2 hKP
                go_upto_region 22 with (go_at_call 10; refine HSG0.out.mono ?_; rintro e w7 ⟨rfl, hk7, hbut7, hb7⟩; have HB7 := Lib.hid hb7; have HK7 := Lib.hid hk7; have HBT7 := Lib.hid hbut7; clear hb7 hk7 hbut7)
                have HKR7 := Lib.hid (ownBut HKR6.out HBT7.out (fun e => HKK.out kb (by exact e) rfl))
                have HNR7 := Lib.hid (ownBut HNR6.out HBT7.out (fun e => HKNN.out kb (by exact e) rfl))
                clear c0 c33 HSG0 HKR6 HNR6 HKF6 HB6 HBT7
                go_upto_region 28 with (first | (go_at_call 14; refine (HL1.out _ HK7.out).mono ?_; rintro e w9 ⟨rfl, hb9⟩; have HB9 := Lib.hid (HLA.out _ _ HB7.out hb9); have HK9 := Lib.hid (HK7.out.below hb9); have HKR9 := Lib.hid (ownBelow HKR7.out hb9); have HNR9 := Lib.hid (ownBelow HNR7.out hb9); have c0 := HCX.out _ HB9.out; clear hb9) | (go_at_call 17; refine (HNA.out _ HB9.out).mono ?_; rintro e wA ⟨rfl, hbA⟩; have HBA := Lib.hid (HLA.out _ _ HB9.out hbA); have HKA := Lib.hid (HK9.out.below hbA); have HKRA := Lib.hid (ownBelow HKR9.out hbA); have HNRA := Lib.hid (ownBelow HNR9.out hbA); have c0 := HCX.out _ HBA.out; clear hbA))
                have hbB := below_one wA (.cells #[.string ⟨nm.toArray⟩] 9 (0, 0))
                have HBB := Lib.hid (HLA.out _ _ HBA.out hbB)
                have HKB2 := Lib.hid (HKA.out.below hbB)
                have HKRB := Lib.hid (ownBelow HKRA.out hbB)
                have HNRB := Lib.hid (ownBelow HNRA.out hbB)
                clear hbB
                go_upto_region 29 with (refine wpList_appendTx (by rfl) (.tmp 153) (.tmp 159) (by rfl) (by rfl) HNRB.out (by rfl) (heap_one wA _) (by omega) HBB.out.size ?_; intro vC wC h2C h3C)
                obtain ⟨nao2, ncap2, rfl⟩ := own_form h2C
                have HNRC := Lib.hid h2C
                have HKRC := Lib.hid (ownGrown HKRB.out HNRB.out kn_ne_str h3C)
                have HBC := Lib.hid (HBB.out.grown h3C HBB.out.size (fun g hg => (HNRB.out.lt g hg).1))
                have HKC := Lib.hid (HKB2.out.grown h3C (fun g hg => HKNL.out g (by exact hg)))
                clear h2C h3C c0 HKB2 HKRB HNRB HBB HKA HKRA HNRA HBA HK9 HKR9 HNR9 HB9 HK7 HKR7 HNR7 HB7
                have HBD := Lib.hid (HBC.out.trans ((Below.refl wC.heap.size wC).drew.mono HBC.out.size))
                have HKD := Lib.hid (HKC.out.below (Below.refl wC.heap.size wC).drew)
                have HKRD := Lib.hid (ownBelow HKRC.out (Below.refl wC.heap.size wC).drew)
                have HNRD := Lib.hid (ownBelow HNRC.out (Below.refl wC.heap.size wC).drew)
                have t3 : (ht : Int).tmod 3 = (h : Int) := by rw [Int.tmod_eq_emod_of_nonneg t0]; exact t2
                clear HKC HKRC HNRC
                refine wp_region_till 17 (BelT w wC.drew) (by kernel_rfl) (BelT.start _) (fun hHeld => ?_)
                refine wpAnyT_take (i := 0) (v := .slice kao SL.length kcap) rfl (by decide) (by kernel_rfl) (by kernel_rfl) (by kernel_rfl) (fun _ _ _ h => h) (Or.inl ⟨by rfl, fun w _ => ?_⟩) hHeld ?_
                · go_simp
                simp only [List.getElem_toArray, List.getElem_cons_zero, Act.put, List.setIfInBounds_toArray, List.set_cons_zero, List.set_cons_succ]
                refine wpAnyT_take (i := 1) (v := .slice (some ⟨g, o, none⟩) L.length cap) rfl (by decide) (by kernel_rfl) (by kernel_rfl) (by kernel_rfl) (fun _ _ _ h => h) (Or.inl ⟨by rfl, fun w _ => ?_⟩) hHeld ?_
                · go_simp
                simp only [List.getElem_toArray, List.getElem_cons_succ, List.getElem_cons_zero, Act.put, List.setIfInBounds_toArray, List.set_cons_zero, List.set_cons_succ]
                refine wpAnyT_take (i := 2) (v := .int .i64 (i : Int)) rfl (by decide) (by kernel_rfl) (by kernel_rfl) (by kernel_rfl) (fun _ _ _ h => h) (Or.inl ⟨by rfl, fun w _ => ?_⟩) hHeld ?_
                · go_simp
                simp only [List.getElem_toArray, List.getElem_cons_succ, List.getElem_cons_zero, Act.put, List.setIfInBounds_toArray, List.set_cons_zero, List.set_cons_succ]
                refine wpAnyT_take (i := 3) (v := .pointer (some ⟨g, o + i * 34, none⟩)) rfl (by decide) (by kernel_rfl) (by kernel_rfl) (by kernel_rfl) (fun _ _ _ h => h) (Or.inl ⟨by rfl, fun w _ => ?_⟩) hHeld ?_
                · go_simp
                simp only [List.getElem_toArray, List.getElem_cons_succ, List.getElem_cons_zero, Act.put, List.setIfInBounds_toArray, List.set_cons_zero, List.set_cons_succ]
                refine wpAnyT_take (i := 4) (v := .pointer (some ⟨g, o + i * 34, none⟩)) rfl (by decide) (by kernel_rfl) (by kernel_rfl) (by kernel_rfl) (fun _ _ _ h => h) (Or.inl ⟨by rfl, fun w _ => ?_⟩) hHeld ?_
                · go_simp
                simp only [List.getElem_toArray, List.getElem_cons_succ, List.getElem_cons_zero, Act.put, List.setIfInBounds_toArray, List.set_cons_zero, List.set_cons_succ]
                refine wpAnyT_take (i := 5) (v := .string ⟨nm.toArray⟩) rfl (by decide) (by kernel_rfl) (by kernel_rfl) (by kernel_rfl) (fun _ _ _ h => h) (Or.inl ⟨by rfl, fun w hSw => ?_⟩) hHeld ?_
                · have c := HCX.out _ (BelT.any HBD.out hSw)
                  go_simp
                simp only [List.getElem_toArray, List.getElem_cons_succ, List.getElem_cons_zero, Act.put, List.setIfInBounds_toArray, List.set_cons_zero, List.set_cons_succ]
                refine wpAnyT_take (i := 6) (v := .pointer (some ⟨kb, 0, none⟩)) rfl (by decide) (by kernel_rfl) (by kernel_rfl) (by kernel_rfl) (fun _ _ _ h => h) (Or.inl ⟨by rfl, fun w _ => ?_⟩) hHeld ?_
                · go_simp
                simp only [List.getElem_toArray, List.getElem_cons_succ, List.getElem_cons_zero, Act.put, List.setIfInBounds_toArray, List.set_cons_zero, List.set_cons_succ]
                refine wpAnyT_take (i := 8) (v := .slice (some ⟨g, o, none⟩) L.length cap) rfl (by decide) (by kernel_rfl) (by kernel_rfl) (by kernel_rfl) (fun _ _ _ h => h) (Or.inl ⟨by rfl, fun w _ => ?_⟩) hHeld ?_
                · go_simp
                simp only [List.getElem_toArray, List.getElem_cons_succ, List.getElem_cons_zero, Act.put, List.setIfInBounds_toArray, List.set_cons_zero, List.set_cons_succ]
                refine wpAnyT_take (i := 9) (v := .int .i64 (i : Int)) rfl (by decide) (by kernel_rfl) (by kernel_rfl) (by kernel_rfl) (fun _ _ _ h => h) (Or.inl ⟨by rfl, fun w _ => ?_⟩) hHeld ?_
                · go_simp
                simp only [List.getElem_toArray, List.getElem_cons_succ, List.getElem_cons_zero, Act.put, List.setIfInBounds_toArray, List.set_cons_zero, List.set_cons_succ]
                refine wpAnyT_take (i := 10) (v := .pointer (some ⟨g, o + i * 34, none⟩)) rfl (by decide) (by kernel_rfl) (by kernel_rfl) (by kernel_rfl) (fun _ _ _ h => h) (Or.inl ⟨by rfl, fun w _ => ?_⟩) hHeld ?_
                · go_simp
                simp only [List.getElem_toArray, List.getElem_cons_succ, List.getElem_cons_zero, Act.put, List.setIfInBounds_toArray, List.set_cons_zero, List.set_cons_succ]
                refine wpAnyT_take (i := 11) (v := .pointer (some ⟨g, o + i * 34 + 33, none⟩)) rfl (by decide) (by kernel_rfl) (by kernel_rfl) (by kernel_rfl) (fun _ _ _ h => h) (Or.inl ⟨by rfl, fun w _ => ?_⟩) hHeld ?_
                · go_simp
                simp only [List.getElem_toArray, List.getElem_cons_succ, List.getElem_cons_zero, Act.put, List.setIfInBounds_toArray, List.set_cons_zero, List.set_cons_succ]
                refine wpAnyT_take (i := 12) (v := .int .u8 (ht : Int)) rfl (by decide) (by kernel_rfl) (by kernel_rfl) (by kernel_rfl) (fun _ _ _ h => h) (Or.inl ⟨by rfl, fun w hSw => ?_⟩) hHeld ?_
                · have c := HCT.out _ (BelT.any HBD.out hSw)
                  go_simp
                simp only [List.getElem_toArray, List.getElem_cons_succ, List.getElem_cons_zero, Act.put, List.setIfInBounds_toArray, List.set_cons_zero, List.set_cons_succ]
                refine wpAnyT_take (i := 13) (v := .int .u8 (h : Int)) rfl (by decide) (by kernel_rfl) (by kernel_rfl) (by kernel_rfl) (fun _ _ _ h => h) (Or.inl ⟨by rfl, fun w _ => ?_⟩) hHeld ?_
                · go_simp
                simp only [List.getElem_toArray, List.getElem_cons_succ, List.getElem_cons_zero, Act.put, List.setIfInBounds_toArray, List.set_cons_zero, List.set_cons_succ]
                refine wpAnyT_take (i := 14) (v := .int .i64 (h : Int)) rfl (by decide) (by kernel_rfl) (by kernel_rfl) (by kernel_rfl) (fun _ _ _ h => h) (Or.inl ⟨by rfl, fun w _ => ?_⟩) hHeld ?_
                · go_simp
                simp only [List.getElem_toArray, List.getElem_cons_succ, List.getElem_cons_zero, Act.put, List.setIfInBounds_toArray, List.set_cons_zero, List.set_cons_succ]
                refine wpAnyT_ready (rs := [7]) (by kernel_rfl) (by simp) ?_
                refine AllReadyT.cons false rfl (by kernel_rfl) (fun K hK => ?_) AllReadyT.nil
                go_simp
                refine (HPU.out _ (HKD.out.below (BelT.no hHeld))).mono ?_
                rintro e wy ⟨rfl, hy⟩
                go_wp2_with fail
                have hy := (BelT.no hHeld).trans (hy.mono (BelT.no hHeld).size)
                refine hK.out _ _ hy (fun hHeld => ?_)
                clear hy
                clear hK K
                refine wpAnyT_take (i := 15) (v := .agg (knC (nm, KP, (h : Int))).toArray) rfl (by decide) (by kernel_rfl) (by kernel_rfl) (by kernel_rfl) (fun _ _ _ h => h) (yieldsIf_buildKnB (by rfl) (.tmp 166) (.tmp 168) (.tmp 175) (by rfl) nm KP (h : Int) (by rfl) (by rfl) (by rfl) HKL.out) hHeld ?_
                simp only [List.getElem_toArray, List.getElem_cons_succ, List.getElem_cons_zero, Act.put, List.setIfInBounds_toArray, List.set_cons_zero, List.set_cons_succ]
                refine wpAnyT_ready (rs := [16]) (by kernel_rfl) (by simp) ?_
                refine AllReadyT.cons false rfl (by kernel_rfl) (fun K hK => ?_) AllReadyT.nil
                refine step_sliceKnB (by rfl) (.tmp 176) (by rfl) (nm, KP, (h : Int)) (by rfl) HKL.out ?_
                have hy := (BelT.no hHeld).alloc (BelT.no hHeld).size (.cells (knC (nm, KP, (h : Int))).toArray 64)
                refine hK.out _ _ hy (fun hHeld => ?_)
                clear hy
                clear hK K
                refine wpAnyT_ready (rs := [17]) (by kernel_rfl) (by simp) ?_
                refine AllReadyT.cons true rfl (by kernel_rfl) (fun K hK => ?_) AllReadyT.nil
                have HKRE := Lib.hid (ownBelow HKRD.out (BelT.no hHeld))
                have HNRE := Lib.hid (ownBelow HNRD.out (BelT.no hHeld))
                have HBEE := Lib.hid (HLA.out _ _ HBD.out (BelT.no hHeld))
                refine step_appendKn (by rfl) (.tmp 161) (.tmp 177) (by rfl) HKL.out (by rfl) HKRE.out (by rfl) (heap_one _ _) (by omega) HBEE.out.size ?_
                intro v11 w11 h2E h3E
                obtain ⟨kao2, kcap2, rfl⟩ := own_form h2E
                have HKR11 := Lib.hid h2E
                have HNR11 := Lib.hid (ownGrown HNRE.out HKRE.out (Ne.symm kn_ne_str) h3E)
                have HB11 := Lib.hid (HBEE.out.grown h3E HBEE.out.size (fun g hg => (HKRE.out.lt g hg).1))
                refine hK.out _ _ HB11.out (fun hHeld => ?_)
                clear h2E h3E HKRE HNRE HBEE
                clear hK K
                refine wpAnyT_take (i := 18) (v := .slice kao2 (SL.length + 1) kcap2) rfl (by decide) (by kernel_rfl) (by kernel_rfl) (by kernel_rfl) (fun _ _ _ h => h) (Or.inl ⟨by rfl, fun w _ => ?_⟩) hHeld ?_
                · go_simp
                simp only [List.getElem_toArray, List.getElem_cons_succ, List.getElem_cons_zero, Act.put, List.setIfInBounds_toArray, List.set_cons_zero, List.set_cons_succ]
                refine wpAnyT_done (by kernel_rfl) ?_ _
                go_wp2_with (go_at_call 16; refine (HTX2.out _ HB11.out).mono ?_; rintro e w12 ⟨rfl, hb12⟩)
                refine ⟨⟨i + 1, SL2, by go_num, HLT.out, by rw [HN2.out], by have := HE1.out; have := HSL.out; omega, HINV2.out, ?_, ?_, HLA.out _ _ HB11.out hb12⟩, by have := HLT.out; simp [intOf]; omega⟩
                · rw [HE1.out, HE2.out]
                  exact ownBelow HKR11.out hb12
                · rw [HE1.out, HE3.out]
                  exact ownBelow HNR11.out hb12
              · obtain ⟨hc2, hnot⟩ := hnot
                have HC2 := Lib.hid hc2
                have HNT := Lib.hid hnot
                have HSG2 := Lib.hid (HSG.out.mono (fun e w' (hh : SgPost S w wq kb sec h 0 (noteOf s SL) nm e w') => (by
                  obtain ⟨ev, rfl, h1, h2, h3, h4⟩ := hh
                  rw [HC2.out] at h1 h2 ⊢
                  obtain ⟨T9, y9, rfl, hq, _⟩ := ErrAt.some5 h1 (by decide)
                  exact ⟨T9, y9, rfl, hq, h1, h2, h3, h4⟩ : ∃ T9 y9, e = .returned (.tuple #[.string ⟨#[]⟩, .iface T9 y9]) ∧ (∀ W, (binOp .neq 34 (.iface T9 y9) .nilIface).run Tryz.prog W = .ok (.bool true) W) ∧ ErrAt S w' (.iface T9 y9) 2 none ∧ KeyF w' kb sec h 0 ∧ But [kb] wq w' ∧ Below w.heap.size w w')))
                clear HSG HCASE hc2
                go_upto_region 22 with (go_at_call 10; refine HSG2.out.mono ?_; rintro e w7 ⟨T9, y9, rfl, hq9, he7, hk7, hbut7, hb7⟩; have HB7 := Lib.hid hb7; have HK7 := Lib.hid hk7; have HBT7 := Lib.hid hbut7; have HE7 := Lib.hid he7; clear hb7 hk7 hbut7 he7)
                have HKR7 := Lib.hid (ownBut HKR6.out HBT7.out (fun e => HKK.out kb (by exact e) rfl))
                have HNR7 := Lib.hid (ownBut HNR6.out HBT7.out (fun e => HKNN.out kb (by exact e) rfl))
                have HI2 := Lib.hid (by
                  have h2 := is_any S w7 (.iface T9 y9) 2 none 2 (HFW.out.below HB7.out).base HE7.out
                  rwa [show isB 2 none 2 = true by decide] at h2 : Calls Tryz.prog 11 #[.iface T9 y9, .int .i64 2] w7 fun e w' => e = .returned (.bool true) ∧ Below w7.heap.size w7 w')
                have HNA := Lib.hid fun (W : World) (hW : Below w.heap.size w W) => name_any S ⟨nm.toArray⟩ W (by have := HNML.out; show nm.toArray.size ≤ _; simp; omega) (HFW.out.below hW).base
                rw [show (⟨nm.toArray⟩ : ByteArray).data.toList = nm from rfl] at HNA
                have HCX := Lib.hid (fun (W : World) (hW : Below w.heap.size w W) => (HCW.out W hW).1)
                clear c0 c33 HSG2 HKR6 HNR6 HKF6 HB6 HBT7
                have p2 : ((P : Int) != (P : Int)) = false := by simp
                obtain ⟨NA, hNA⟩ : ∃ NA, nameOf nm = NA := ⟨_, rfl⟩
                rw [hNA] at HNA
                have HNAE := Lib.hid hNA
                clear hNA
                obtain ⟨D, hD⟩ : ∃ D, decide (nm ∈ SL.map Prod.fst) = D := ⟨_, rfl⟩
                have HDE := Lib.hid hD
                rw [hD]
                clear hD hnot
                have HEND := Lib.hid (fun (W : World) (hb : Below w7.heap.size w7 W) => (⟨i + 1, SL, by go_num, HLT.out, rfl, by have := HSL.out; omega, HINV.out, ownBelow HKR7.out hb, ownBelow HNR7.out hb, HLA.out _ _ HB7.out hb⟩ : BkR s L w (.slice kao SL.length kcap) (.slice nao SL.length ncap) (.string ⟨(noteOf s SL).toArray⟩) (.int .i64 ((i : Int) + 1)) W))
                have HM := Lib.hid (show L.length - (i + 1) < L.length - i by have := HLT.out; omega)
                cases NA with
                | false =>
                  go_wp2_with (first | (go_at_call 11; refine HI2.out.mono ?_; rintro e w8 ⟨rfl, hb8⟩; have HB8 := Lib.hid hb8; have HK8 := Lib.hid (HK7.out.below hb8); clear hb8) | (go_at_call 14; refine (HL0.out _ HK8.out).mono ?_; rintro e w9 ⟨rfl, hb9⟩; have HB9 := Lib.hid hb9; have HBW9 := Lib.hid (HLA.out _ _ HB7.out (HB8.out.trans (hb9.mono HB8.out.size))); have c0 := HCX.out _ HBW9.out; clear hb9) | (go_at_call 17; refine (HNA.out _ HBW9.out).mono ?_; rintro e w10 ⟨rfl, hb10⟩))
                  exact ⟨HEND.out _ (HB8.out.trans ((HB9.out.trans (hb10.mono HB9.out.size)).mono HB8.out.size)), by have := HLT.out; simp [intOf]; omega⟩
                | true =>
                  cases D with
                  | true =>
                    go_wp2_with (first | (go_at_call 11; refine HI2.out.mono ?_; rintro e w8 ⟨rfl, hb8⟩; have HB8 := Lib.hid hb8; have HK8 := Lib.hid (HK7.out.below hb8); clear hb8) | (go_at_call 14; refine (HL0.out _ HK8.out).mono ?_; rintro e w9 ⟨rfl, hb9⟩; have HB9 := Lib.hid hb9; have HBW9 := Lib.hid (HLA.out _ _ HB7.out (HB8.out.trans (hb9.mono HB8.out.size))); have c0 := HCX.out _ HBW9.out; clear hb9) | (go_at_call 17; refine (HNA.out _ HBW9.out).mono ?_; rintro e w10 ⟨rfl, hb10⟩))
                    exact ⟨HEND.out _ (HB8.out.trans ((HB9.out.trans (hb10.mono HB9.out.size)).mono HB8.out.size)), by have := HLT.out; simp [intOf]; omega⟩
                  | false =>
                    have h0 : SL.length = 0 := by
                      by_cases e : SL = []
                      · rw [e]; rfl
                      · exact absurd ⟨HNAE.out, of_decide_eq_false HDE.out, e⟩ HNT.out
                    have l0 : ¬ (0 : Int) < (SL.length : Int) := by omega
                    have l0c : (SL.length : Int) = 0 := by omega
                    clear h0
                    go_wp2_with (first | (go_at_call 11; refine HI2.out.mono ?_; rintro e w8 ⟨rfl, hb8⟩; have HB8 := Lib.hid hb8; have HK8 := Lib.hid (HK7.out.below hb8); clear hb8) | (go_at_call 14; refine (HL0.out _ HK8.out).mono ?_; rintro e w9 ⟨rfl, hb9⟩; have HB9 := Lib.hid hb9; have HBW9 := Lib.hid (HLA.out _ _ HB7.out (HB8.out.trans (hb9.mono HB8.out.size))); have c0 := HCX.out _ HBW9.out; clear hb9) | (go_at_call 17; refine (HNA.out _ HBW9.out).mono ?_; rintro e w10 ⟨rfl, hb10⟩))
                    exact ⟨HEND.out _ (HB8.out.trans ((HB9.out.trans (hb10.mono HB9.out.size)).mono HB8.out.size)), by have := HLT.out; simp [intOf]; omega⟩
        · obtain rfl : i = L.length := by omega
          have i1 : ¬ (L.length : Int) < (L.length : Int) := by omega
          have HSL4 := Lib.hid (show SL.length ≤ 4 by omega)
          clear hi hsl hlt
          by_cases hne : SL = []
          · subst hne
            have l0 : ((([] : List Sg).length : Nat) : Int) = 0 := rfl
            go_wp2_with (go_at_call 7; refine (HAL.out _ HBE.out).mono ?_; rintro e w2 ⟨rfl, hb2⟩)
            go_ret
            exact ⟨rfl, HLA.out _ _ HBE.out hb2⟩
          · have hpos := List.length_pos_iff.2 hne
            obtain ⟨gk, cap1, he, hrk⟩ := own_rangeB HKR.out (fun e => by
              have := HKR.out.1
              rw [e] at this
              simp at this
              omega)
            cases he
            obtain ⟨gn, cap2, he, hrn⟩ := own_rangeB HNR.out (fun e => by
              have := HNR.out.1
              rw [e] at this
              simp at this
              omega)
            cases he
            have HKI := Lib.hid (knIn_own (KL := SL.map sgK) (by rw [List.length_map]; exact HKR.out) (fun x hx => by
              obtain ⟨y, _, rfl⟩ := List.mem_map.1 hx
              exact knode_len _ _ _))
            have HTI := Lib.hid (textsIn_own (L := SL.map Prod.fst) (by rw [List.length_map]; exact HNR.out))
            have HNL := Lib.hid (note_len HINV.out HS.out (by have := HSL4.out; omega))
            have HALL := Lib.hid (bk_all HINV.out hne (by have := HSL4.out; omega))
            have HONE := Lib.hid (fun (x : Sg) (hx : x ∈ SL) => bk_one HINV.out (by have := HSL4.out; omega) hx)
            have HOTH := Lib.hid (bk_other HINV.out hne (by have := HSL4.out; omega))
            have HOK2 := Lib.hid (fun (x : Sg) (hx : x ∈ SL) => (by
              have h := HINV.out.fine x hx
              exact ⟨Nat.le_trans (name_len h.1).1 (by decide), knode_len _ _ _, show idxOk ((x.2.2 : Nat) : Int) from ⟨by omega, by omega⟩⟩ : knOk (sgK x)))
            have HNM64 := Lib.hid (fun (x : Sg) (hx : x ∈ SL) => (name_len (HINV.out.fine x hx).1).1)
            obtain ⟨N, hN⟩ : ∃ N, noteOf s SL = N := ⟨_, rfl⟩
            rw [hN] at HNL HALL HONE HOTH ⊢
            have HOP := Lib.hid (fun (KL : List Kn) (hK : ∀ k ∈ KL, knOk k) (hl : KL.length ≤ 1000) (W : World) (kv : Value) (hW : Below w.heap.size w W) (hkn : KnIn W kv KL) => open_any S N kv KL (by have := HNL.out; omega) hK hl W (HFW.out.below hW) hkn)
            have HOA := Lib.hid (fun (W : World) (kv : Value) (hW : Below w.heap.size w W) (hkn : KnIn W kv (SL.map sgK)) => (by
              have h := HOP.out (SL.map sgK) (fun k hk => by
                obtain ⟨y, hy, rfl⟩ := List.mem_map.1 hk
                exact HOK2.out y hy) (by rw [List.length_map]; have := HSL4.out; omega) W kv hW hkn
              unfold OpenPost at h
              rw [HALL.out] at h
              refine h.mono ?_
              rintro e w2 ⟨v, ev, rfl, h1, h2, h3⟩
              obtain rfl := ErrAt.zero2 h2 rfl
              exact ⟨v, rfl, h1 _ (fun _ _ _ => rfl), h3⟩ : Calls Tryz.prog 19 #[.string ⟨N.toArray⟩, kv] W fun e w2 => ∃ v, e = .returned (.tuple #[.string ⟨s.toArray⟩, v, .nilIface]) ∧ TextsIn w2 v (SL.map Prod.fst) ∧ Below W.heap.size W w2))
            have HO1 := Lib.hid (fun (x : Sg) (hx : x ∈ SL) (W : World) (kv : Value) (hW : Below w.heap.size w W) (hkn : KnIn W kv [sgK x]) => (by
              have h := HOP.out [sgK x] (fun k hk => by rw [List.mem_singleton.1 hk]; exact HOK2.out x hx) (by simp) W kv hW hkn
              unfold OpenPost at h
              rw [HONE.out x hx] at h
              refine h.mono ?_
              rintro e w2 ⟨v, ev, rfl, h1, h2, h3⟩
              obtain rfl := ErrAt.zero2 h2 rfl
              exact ⟨v, rfl, h1 _ (fun _ _ _ => rfl), h3⟩ : Calls Tryz.prog 19 #[.string ⟨N.toArray⟩, kv] W fun e w2 => ∃ v, e = .returned (.tuple #[.string ⟨s.toArray⟩, v, .nilIface]) ∧ TextsIn w2 v [x.1] ∧ Below W.heap.size W w2))
            have HST := Lib.hid (fun (W : World) (v u : Value) (M : List (List UInt8)) (hM : M.length ≤ 4) (h1 : TextsIn W v M) (h2 : TextsIn W u M) => (by
              have h := sameTexts_any W v u M M h1 h2 (by omega) (by omega)
              rw [decide_eq_true (show M = M from rfl)] at h
              refine h.mono ?_
              rintro e w' ⟨rfl, n, rfl⟩
              exact ⟨rfl, below_drewN (Below.refl _ _) n⟩ : Calls Tryz.prog 20 #[v, u] W fun e w' => e = .returned (.bool true) ∧ Below W.heap.size W w'))
            have n0 : (0 : Int) ≤ (SL.length : Int) := by omega
            have n1 : ¬ (SL.length : Int) = 0 := by omega
            have n1b : ((SL.length : Int) == 0) = false := by rw [beq_eq_false_iff_ne]; exact n1
            have n2 : (SL.length : Int) ≤ 4 := by have := HSL4.out; omega
            have n3 : (0 : Int) < (SL.length : Int) := by omega
            have HPOS := Lib.hid hpos
            have HRK := Lib.hid hrk
            have HRN := Lib.hid hrn
            clear hrk hrn hpos hne hN HALL HONE HKR HNR
            go_upto_region 36 with (go_at_call 19; refine (HOA.out _ _ HBE.out HKI.out).mono ?_; rintro e w3 ⟨v3, rfl, ht3, hb3⟩; have HT3 := Lib.hid ht3; have HB3 := Lib.hid hb3; clear hb3 ht3)
            have HTI3 := Lib.hid (HTI.out.below HB3.out)
            go_wp2_with (go_at_call 20; refine (HST.out _ _ _ (SL.map Prod.fst) (by rw [List.length_map]; exact HSL4.out) HT3.out HTI3.out).mono ?_; rintro e w4 ⟨rfl, hb4⟩; have HBR4 := Lib.hid (HB3.out.trans (hb4.mono HB3.out.size)); clear hb4)
            clear HT3 HTI3 HB3
            go_loopw [21] (fun iv wq => ∃ j : Nat, iv = .int .i64 (j : Int) ∧ j ≤ SL.length ∧ Below wr.heap.size wr wq) (fun iv _ => SL.length - (intOf iv).toNat)
            case atStart => exact ⟨0, rfl, Nat.zero_le _, HBR4.out⟩
            case round =>
              obtain ⟨j, rfl, hj, hbq⟩ := hrel
              rename World => wq
              have HBQ := Lib.hid hbq
              have HWQ := Lib.hid (HLA.out _ _ HBE.out hbq)
              have j0 : (0 : Int) ≤ (j : Int) := by omega
              clear hbq
              by_cases hjl : j < SL.length
              · have j1 : (j : Int) < (SL.length : Int) := by omega
                obtain ⟨x, hx⟩ : ∃ x, SL[j]? = some x := ⟨_, List.getElem?_eq_getElem hjl⟩
                have HXM := Lib.hid (List.mem_of_getElem? hx)
                have HXR := Lib.hid (fun q u hq => (by
                  have h := below_cell HBQ.out (HRK.out (j * 34 + q) u (ksC_at (SL.map sgK) j (sgK x) (fun y hy => by
                    obtain ⟨z, _, rfl⟩ := List.mem_map.1 hy
                    exact knode_len _ _ _) (by rw [List.getElem?_map, hx]; rfl) q u hq))
                  rwa [Nat.zero_add] at h : wq.cell? ⟨gk, j * 34 + q, none⟩ = some u))
                have HXN := Lib.hid (by
                  have h := HRN.out j _ (txC_at (L := SL.map Prod.fst) (x := x.1) (by rw [List.getElem?_map, hx]; rfl))
                  rwa [Nat.zero_add] at h : wr.cell? ⟨gn, j, none⟩ = some (.string ⟨x.1.toArray⟩))
                have HJL := Lib.hid hjl
                have HKX := Lib.hid (show (sgK x).2.1.length = 32 from knode_len _ _ _)
                obtain ⟨xk, hxk⟩ : ∃ k, sgK x = k := ⟨_, rfl⟩
                have HO1X := Lib.hid (HO1.out x HXM.out)
                rw [hxk] at HXR HKX HO1X
                obtain ⟨nmx, hnx⟩ : ∃ n, x.1 = n := ⟨_, rfl⟩
                rw [hnx] at HXN HO1X
                clear hx hj hjl hxk hnx
                go_upto_region 42 with (first | (refine wpList_knLoad (by rfl) (.tmp 225) (by rfl) gk (j * 34) (by rfl) xk HKX.out HXR.out ?_) | (refine wpList_sliceKn (by rfl) (.tmp 226) (by rfl) xk (by rfl) HKX.out ?_) | (go_at_call 19; refine (HO1X.out _ _ (HLA.out _ _ HWQ.out (below_one _ _)) (knIn_one _ _)).mono ?_; rintro e w5 ⟨v5, rfl, ht5, hb5⟩; have HT5 := Lib.hid ht5; have hb5 := (below_one wq (.cells (knC xk).toArray 64 (0, 0))).trans (hb5.mono (below_one wq (.cells (knC xk).toArray 64 (0, 0))).size); have HBR5 := Lib.hid (HBQ.out.trans (hb5.mono HBQ.out.size)); clear ht5))
                have cn := below_cell HBR5.out HXN.out
                have HT6 := Lib.hid (HT5.out.below (below_one w5 (.cells #[.string ⟨nmx.toArray⟩] 9 (0, 0))))
                have HBR6 := Lib.hid (HBR5.out.trans ((below_one w5 (.cells #[.string ⟨nmx.toArray⟩] 9 (0, 0))).mono HBR5.out.size))
                clear hb5
                go_wp2_with (go_at_call 20; refine (HST.out _ _ _ [nmx] (by simp) HT6.out (textsOne _ _)).mono ?_; rintro e w7 ⟨rfl, hb7⟩)
                exact ⟨⟨j + 1, by go_num, HJL.out, HBR6.out.trans (hb7.mono HBR6.out.size)⟩, by have := HJL.out; simp [intOf]; omega⟩
              · obtain rfl : j = SL.length := by omega
                have j1 : ¬ (SL.length : Int) < (SL.length : Int) := by omega
                clear hj hjl HO1 HOA
                obtain ⟨z, hz⟩ : ∃ z, SL[0]? = some z := ⟨_, List.getElem?_eq_getElem HPOS.out⟩
                have HZM := Lib.hid (List.mem_of_getElem? hz)
                have c0 : wq.cell? ⟨gn, 0, none⟩ = some (.string ⟨z.1.toArray⟩) := by
                  have h := below_cell HBQ.out (HRN.out 0 _ (txC_at (L := SL.map Prod.fst) (x := z.1) (by rw [List.getElem?_map, hz]; rfl)))
                  exact h
                have HZR := Lib.hid (fun (W : World) (hW : Below wr.heap.size wr W) q u hq => (by
                  have h := below_cell hW (HRK.out (0 * 34 + q) u (ksC_at (SL.map sgK) 0 (sgK z) (fun y hy => by
                    obtain ⟨z, _, rfl⟩ := List.mem_map.1 hy
                    exact knode_len _ _ _) (by rw [List.getElem?_map, hz]; rfl) q u hq))
                  rw [Nat.zero_mul, Nat.zero_add, Nat.zero_add] at h
                  rwa [Nat.zero_add] : W.cell? ⟨gk, 0 + q, none⟩ = some u))
                have HNZ := Lib.hid (HNM64.out z HZM.out)
                clear hz
                obtain ⟨nz, hnz⟩ : ∃ n, z.1 = n := ⟨_, rfl⟩
                rw [hnz] at c0 HNZ
                have HC1 := Lib.hid (fun (j : Nat) (y : List UInt8) (hy : (SL.map Prod.fst)[j]? = some y) => (by
                  have h := below_cell HBQ.out (HRN.out j _ (txC_at hy))
                  rwa [Nat.zero_add] at h : wq.cell? ⟨gn, j, none⟩ = some (.string ⟨y.toArray⟩)))
                clear hnz
                have q1 : ¬ 9223372036854775807 < nz.length + 1 := by have := HNZ.out; omega
                go_upto_region 45 with fail
                clear c0 q1
                rw [catx nz]
                go_wp2_with fail
                go_loopw [22, 23] (fun ov iv wz => ∃ j : Nat, iv = .int .i64 (j : Int) ∧ j ≤ SL.length ∧ ov = .string ⟨(manyX (SL.map Prod.fst) (nz ++ [120]) j).toArray⟩ ∧ wq = wz) (fun _ iv _ => SL.length - (intOf iv).toNat)
                case atStart => exact ⟨0, rfl, Nat.zero_le _, rfl, rfl⟩
                case round =>
                  obtain ⟨j, rfl, hj, rfl, rfl⟩ := hrel
                  have j0 : (0 : Int) ≤ (j : Int) := by omega
                  by_cases hjl : j < SL.length
                  · have j1b : (j : Int) < (SL.length : Int) := by omega
                    have HJL := Lib.hid hjl
                    obtain ⟨O, hO⟩ : ∃ O, manyX (SL.map Prod.fst) (nz ++ [120]) j = O := ⟨_, rfl⟩
                    have HOL := Lib.hid (by
                      have h1 := manyX_len (SL.map Prod.fst) (nz ++ [120]) j
                      rw [hO, List.length_map, List.length_append, List.length_singleton] at h1
                      have h2 := HNZ.out
                      have h4 : j * SL.length ≤ 4 * 4 := Nat.mul_le_mul (by have := HSL4.out; omega) HSL4.out
                      omega : O.length ≤ 100)
                    have HOE := Lib.hid (show manyX (SL.map Prod.fst) (nz ++ [120]) (j + 1) = passX (SL.map Prod.fst) O by rw [← hO]; rfl)
                    rw [hO]
                    clear hO hj hjl
                    go_wp2_with fail
                    go_loopw [22, 24] (fun ov kv wz => ∃ k : Nat, kv = .int .i64 (k : Int) ∧ k ≤ SL.length ∧ ov = .string ⟨(passX ((SL.map Prod.fst).take k) O).toArray⟩ ∧ wq = wz) (fun _ kv _ => SL.length - (intOf kv).toNat)
                    case atStart => exact ⟨0, rfl, Nat.zero_le _, rfl, rfl⟩
                    case round =>
                      obtain ⟨k, rfl, hk, rfl, rfl⟩ := hrel
                      have k0 : (0 : Int) ≤ (k : Int) := by omega
                      by_cases hkl : k < SL.length
                      · have k1 : (k : Int) < (SL.length : Int) := by omega
                        obtain ⟨y, hy⟩ : ∃ y, (SL.map Prod.fst)[k]? = some y := ⟨_, List.getElem?_eq_getElem (by rw [List.length_map]; exact hkl)⟩
                        have cy := HC1.out k y hy
                        have HPS := Lib.hid (show passX ((SL.map Prod.fst).take (k + 1)) O = if y = passX ((SL.map Prod.fst).take k) O then passX ((SL.map Prod.fst).take k) O ++ [120] else passX ((SL.map Prod.fst).take k) O by
                          rw [List.take_add_one, hy]
                          exact passX_snoc _ _ _)
                        have HKL2 := Lib.hid hkl
                        have HQL := Lib.hid (by
                          have h1 := (passX_le ((SL.map Prod.fst).take k) O).2
                          rw [List.length_take] at h1
                          have h2 := HOL.out
                          have h3 := HSL4.out
                          omega : (passX ((SL.map Prod.fst).take k) O).length ≤ 200)
                        obtain ⟨Q, hQ⟩ : ∃ Q, passX ((SL.map Prod.fst).take k) O = Q := ⟨_, rfl⟩
                        rw [hQ] at HPS HQL ⊢
                        have q2 : ¬ 9223372036854775807 < Q.length + 1 := by have := HQL.out; omega
                        have hq := str_eqL y Q
                        clear hQ hy hk hkl
                        by_cases hyq : y = Q
                        · have hq2 : ((⟨y.toArray⟩ : ByteArray).toList == (⟨Q.toArray⟩ : ByteArray).toList) = true := by rw [hq]; exact decide_eq_true hyq
                          have hq3 : (y == Q) = true := by simpa using hyq
                          have HP2 := Lib.hid (show passX ((SL.map Prod.fst).take (k + 1)) O = Q ++ [120] by rw [HPS.out, if_pos hyq])
                          clear hq hyq
                          go_wp2_with fail
                          exact ⟨⟨k + 1, by go_num, HKL2.out, by rw [HP2.out, ← catx], by first | rfl | trivial⟩, by have := HKL2.out; simp [intOf]; omega⟩
                        · have hq2 : ((⟨y.toArray⟩ : ByteArray).toList == (⟨Q.toArray⟩ : ByteArray).toList) = false := by rw [hq]; exact decide_eq_false hyq
                          have hq3 : (y == Q) = false := by simpa using hyq
                          have HP2 := Lib.hid (show passX ((SL.map Prod.fst).take (k + 1)) O = Q by rw [HPS.out, if_neg hyq])
                          clear hq hyq
                          go_wp2_with fail
                          exact ⟨⟨k + 1, by go_num, HKL2.out, by rw [HP2.out], by first | rfl | trivial⟩, by have := HKL2.out; simp [intOf]; omega⟩
                      · obtain rfl : k = SL.length := by omega
                        have k1 : ¬ (SL.length : Int) < (SL.length : Int) := by omega
                        have HP2 := Lib.hid (show passX ((SL.map Prod.fst).take SL.length) O = passX (SL.map Prod.fst) O by rw [List.take_of_length_le (by rw [List.length_map]; omega)])
                        clear hk hkl
                        go_wp2_with fail
                        exact ⟨⟨j + 1, by go_num, HJL.out, by rw [HP2.out, HOE.out], by first | rfl | trivial⟩, by have := HJL.out; simp [intOf]; omega⟩
                  · obtain rfl : j = SL.length := by omega
                    have HNONE := Lib.hid (manyX_none (SL.map Prod.fst) SL.length (nz ++ [120]) (by have := longX_le (SL.map Prod.fst) (nz ++ [120]).length; rwa [List.length_map] at this))
                    have HLEN := Lib.hid (manyX_len (SL.map Prod.fst) (nz ++ [120]) SL.length)
                    rw [List.length_map, List.length_append, List.length_singleton] at HLEN
                    obtain ⟨X, hX⟩ : ∃ X, manyX (SL.map Prod.fst) (nz ++ [120]) SL.length = X := ⟨_, rfl⟩
                    rw [hX] at HNONE HLEN ⊢
                    have HXL := Lib.hid (show X.length ≤ 1048576 by
                      have h1 := HLEN.out
                      have h2 := HNZ.out
                      have h3 := HSL4.out
                      have h4 : SL.length * SL.length ≤ 4 * 4 := Nat.mul_le_mul h3 h3
                      omega)
                    have HZK := Lib.hid (HOK2.out z HZM.out)
                    obtain ⟨zk, hzk⟩ : ∃ k, sgK z = k := ⟨_, rfl⟩
                    rw [hzk] at HZK HZR
                    obtain ⟨zn, zp, zh⟩ := zk
                    have HZP := Lib.hid (show zp.length = 32 from HZK.out.2.1)
                    have HOX := Lib.hid (fun (W : World) (kv : Value) (hW : Below w.heap.size w W) (hkn : KnIn W kv [(X, zp, zh)]) => (by
                      have h := HOP.out [(X, zp, zh)] (fun k hk => by rw [List.mem_singleton.1 hk]; exact ⟨HXL.out, HZP.out, HZK.out.2.2⟩) (by simp) W kv hW hkn
                      unfold OpenPost at h
                      rw [HOTH.out (X, zp, zh) HNONE.out] at h
                      refine h.mono ?_
                      rintro e w2 ⟨v, ev, rfl, h1, h2, h3⟩
                      obtain ⟨ao, cp, rfl, _⟩ := h1 w2 (fun _ _ _ => rfl)
                      exact ⟨ao, cp, ev, rfl, h2, h3⟩ : Calls Tryz.prog 19 #[.string ⟨N.toArray⟩, kv] W fun e w2 => ∃ ao cp ev, e = .returned (.tuple #[.string ⟨#[]⟩, .slice ao 0 cp, ev]) ∧ ErrAt S w2 ev 12 none ∧ Below W.heap.size W w2))
                    have HI12 := Lib.hid fun (W : World) (v : Value) (hW : Below w.heap.size w W) (h : ErrAt S W v 12 none) => (by
                      have h2 := is_any S W v 12 none 12 (HFW.out.below hW).base h
                      rwa [show isB 12 none 12 = true by decide] at h2 : Calls Tryz.prog 11 #[v, .int .i64 12] W fun e w' => e = .returned (.bool true) ∧ Below W.heap.size W w')
                    have HCP := Lib.hid (fun (W : World) (hW : Below wr.heap.size wr W) => (by
                      have h := HZR.out W hW
                      exact ⟨knC_pub (k := (zn, zp, zh)) HZP.out h, h 33 _ (by have := knC_height (k := (zn, zp, zh)) HZP.out; rwa [List.getElem?_toArray] at this)⟩ : W.rangeAt gk (0 + 1) (Lib.byteCells zp) ∧ W.cell? ⟨gk, 0 + 33, none⟩ = some (.int .i64 zh)))
                    simp only [Nat.zero_add] at HCP
                    have HQD := Lib.hid (HBQ.out.trans ((Below.refl wq.heap.size wq).drew.mono HBQ.out.size))
                    clear hX hzk hj hjl HZR HC1 HNONE HLEN
                    go_wp2_with fail
                    have n5 : ¬ SL = [] := List.length_pos_iff.1 HPOS.out
                    refine wp_region_till 100 (BelK wq.drew) (by kernel_rfl) (Below.refl _ _) (fun hHeld => ?_)
                    refine wpAnyT_take (i := 0) (v := .string ⟨N.toArray⟩) rfl (by decide) (by kernel_rfl) (by kernel_rfl) (by kernel_rfl) (fun _ _ _ h => h) (Or.inl ⟨by rfl, fun w _ => ?_⟩) hHeld ?_
                    · go_simp
                    simp only [List.getElem_toArray, List.getElem_cons_zero, Act.put, List.setIfInBounds_toArray, List.set_cons_zero, List.set_cons_succ]
                    refine wpAnyT_take (i := 1) (v := .string ⟨X.toArray⟩) rfl (by decide) (by kernel_rfl) (by kernel_rfl) (by kernel_rfl) (fun _ _ _ h => h) (Or.inl ⟨by rfl, fun w _ => ?_⟩) hHeld ?_
                    · go_simp
                    simp only [List.getElem_toArray, List.getElem_cons_succ, List.getElem_cons_zero, Act.put, List.setIfInBounds_toArray, List.set_cons_zero, List.set_cons_succ]
                    refine wpAnyT_take (i := 2) (v := .slice (some ⟨gk, 0, none⟩) SL.length kcap) rfl (by decide) (by kernel_rfl) (by kernel_rfl) (by kernel_rfl) (fun _ _ _ h => h) (Or.inl ⟨by rfl, fun w _ => ?_⟩) hHeld ?_
                    · go_simp
                    simp only [List.getElem_toArray, List.getElem_cons_succ, List.getElem_cons_zero, Act.put, List.setIfInBounds_toArray, List.set_cons_zero, List.set_cons_succ]
                    refine wpAnyT_take (i := 3) (v := .pointer (some ⟨gk, 0, none⟩)) rfl (by decide) (by kernel_rfl) (by kernel_rfl) (by kernel_rfl) (fun _ _ _ h => h) (Or.inl ⟨by rfl, fun w _ => ?_⟩) hHeld ?_
                    · go_simp
                    simp only [List.getElem_toArray, List.getElem_cons_succ, List.getElem_cons_zero, Act.put, List.setIfInBounds_toArray, List.set_cons_zero, List.set_cons_succ]
                    refine wpAnyT_take (i := 4) (v := .pointer (some ⟨gk, 1, none⟩)) rfl (by decide) (by kernel_rfl) (by kernel_rfl) (by kernel_rfl) (fun _ _ _ h => h) (Or.inl ⟨by rfl, fun w _ => ?_⟩) hHeld ?_
                    · go_simp
                    simp only [List.getElem_toArray, List.getElem_cons_succ, List.getElem_cons_zero, Act.put, List.setIfInBounds_toArray, List.set_cons_zero, List.set_cons_succ]
                    refine wpAnyT_take (i := 5) (v := hv zp) rfl (by decide) (by kernel_rfl) (by kernel_rfl) (by kernel_rfl) (fun _ _ _ h => h) (yieldsIf_load_mid (by rfl) 23 (.tmp 278) (by rfl) gk 1 (by rfl) (Lib.byteCells zp) _ (fun w ⟨_, h⟩ => (HCP.out w (HQD.out.trans ((BelK.out h).mono HQD.out.size))).1) Tryz.underlying23 rfl (by rw [Lib.byteCells_length, HZP.out]; exact hashInfo)) hHeld ?_
                    simp only [List.getElem_toArray, List.getElem_cons_succ, List.getElem_cons_zero, Act.put, List.setIfInBounds_toArray, List.set_cons_zero, List.set_cons_succ]
                    refine wpAnyT_take (i := 6) (v := .slice (some ⟨gk, 0, none⟩) SL.length kcap) rfl (by decide) (by kernel_rfl) (by kernel_rfl) (by kernel_rfl) (fun _ _ _ h => h) (Or.inl ⟨by rfl, fun w _ => ?_⟩) hHeld ?_
                    · go_simp
                    simp only [List.getElem_toArray, List.getElem_cons_succ, List.getElem_cons_zero, Act.put, List.setIfInBounds_toArray, List.set_cons_zero, List.set_cons_succ]
                    refine wpAnyT_take (i := 7) (v := .pointer (some ⟨gk, 0, none⟩)) rfl (by decide) (by kernel_rfl) (by kernel_rfl) (by kernel_rfl) (fun _ _ _ h => h) (Or.inl ⟨by rfl, fun w _ => ?_⟩) hHeld ?_
                    · go_simp
                    simp only [List.getElem_toArray, List.getElem_cons_succ, List.getElem_cons_zero, Act.put, List.setIfInBounds_toArray, List.set_cons_zero, List.set_cons_succ]
                    refine wpAnyT_take (i := 8) (v := .pointer (some ⟨gk, 33, none⟩)) rfl (by decide) (by kernel_rfl) (by kernel_rfl) (by kernel_rfl) (fun _ _ _ h => h) (Or.inl ⟨by rfl, fun w _ => ?_⟩) hHeld ?_
                    · go_simp
                    simp only [List.getElem_toArray, List.getElem_cons_succ, List.getElem_cons_zero, Act.put, List.setIfInBounds_toArray, List.set_cons_zero, List.set_cons_succ]
                    refine wpAnyT_take (i := 9) (v := .int .i64 zh) rfl (by decide) (by kernel_rfl) (by kernel_rfl) (by kernel_rfl) (fun _ _ _ h => h) (Or.inl ⟨by rfl, fun w hSw => ?_⟩) hHeld ?_
                    · obtain ⟨b, hb⟩ := hSw; have c := (HCP.out _ (HQD.out.trans ((BelK.out hb).mono HQD.out.size))).2
                      go_simp
                    simp only [List.getElem_toArray, List.getElem_cons_succ, List.getElem_cons_zero, Act.put, List.setIfInBounds_toArray, List.set_cons_zero, List.set_cons_succ]
                    refine wpAnyT_take (i := 10) (v := .agg (knC (X, zp, zh)).toArray) rfl (by decide) (by kernel_rfl) (by kernel_rfl) (by kernel_rfl) (fun _ _ _ h => h) (yieldsIf_buildKnB (by rfl) (.tmp 275) (.tmp 279) (.tmp 283) (by rfl) X zp zh (by rfl) (by rfl) (by rfl) HZP.out) hHeld ?_
                    simp only [List.getElem_toArray, List.getElem_cons_succ, List.getElem_cons_zero, Act.put, List.setIfInBounds_toArray, List.set_cons_zero, List.set_cons_succ]
                    refine wpAnyT_ready (rs := [11]) (by kernel_rfl) (by simp) ?_
                    refine AllReadyT.cons false rfl (by kernel_rfl) (fun K hK => ?_) AllReadyT.nil
                    refine step_sliceKnB (by rfl) (.tmp 284) (by rfl) (X, zp, zh) (by rfl) HZP.out ?_
                    have hy := (BelK.out hHeld).alloc (BelK.out hHeld).size (.cells (knC (X, zp, zh)).toArray 64)
                    refine hK.out _ _ hy (fun hHeld => ?_)
                    clear hy
                    clear hK K
                    refine wpAnyT_ready (rs := [12]) (by kernel_rfl) (by simp) ?_
                    refine AllReadyT.cons false rfl (by kernel_rfl) (fun K hK => ?_) AllReadyT.nil
                    go_simp
                    have HWD := Lib.hid (HLA.out _ _ HBE.out (HQD.out.trans ((BelK.out hHeld).mono HQD.out.size)))
                    refine (HOX.out _ _ HWD.out (knIn_one _ _)).mono ?_
                    rintro e wz ⟨aoz, cpz, evz, hy⟩
                    obtain ⟨rfl, hez, hy⟩ := hy
                    have HEZ := Lib.hid hez
                    have HBZ := Lib.hid (HLA.out _ _ HWD.out hy)
                    go_wp2_with fail
                    have hy := (BelK.out hHeld).trans (hy.mono (BelK.out hHeld).size)
                    refine hK.out _ _ hy (fun hHeld => ?_)
                    clear hy hez
                    clear hK K
                    refine wpAnyT_take (i := 13) (v := .tuple #[.string ⟨#[]⟩, .slice aoz 0 cpz, evz]) rfl (by decide) (by kernel_rfl) (by kernel_rfl) (by kernel_rfl) (fun _ _ _ h => h) (Or.inl ⟨by rfl, fun w _ => ?_⟩) hHeld ?_
                    · go_simp
                    simp only [List.getElem_toArray, List.getElem_cons_succ, List.getElem_cons_zero, Act.put, List.setIfInBounds_toArray, List.set_cons_zero, List.set_cons_succ]
                    refine wpAnyT_take (i := 14) (v := .string ⟨#[]⟩) rfl (by decide) (by kernel_rfl) (by kernel_rfl) (by kernel_rfl) (fun _ _ _ h => h) (Or.inl ⟨by rfl, fun w _ => ?_⟩) hHeld ?_
                    · go_simp
                    simp only [List.getElem_toArray, List.getElem_cons_succ, List.getElem_cons_zero, Act.put, List.setIfInBounds_toArray, List.set_cons_zero, List.set_cons_succ]
                    refine wpAnyT_take (i := 15) (v := .slice aoz 0 cpz) rfl (by decide) (by kernel_rfl) (by kernel_rfl) (by kernel_rfl) (fun _ _ _ h => h) (Or.inl ⟨by rfl, fun w _ => ?_⟩) hHeld ?_
                    · go_simp
                    simp only [List.getElem_toArray, List.getElem_cons_succ, List.getElem_cons_zero, Act.put, List.setIfInBounds_toArray, List.set_cons_zero, List.set_cons_succ]
                    refine wpAnyT_take (i := 16) (v := evz) rfl (by decide) (by kernel_rfl) (by kernel_rfl) (by kernel_rfl) (fun _ _ _ h => h) (Or.inl ⟨by rfl, fun w _ => ?_⟩) hHeld ?_
                    · go_simp
                    simp only [List.getElem_toArray, List.getElem_cons_succ, List.getElem_cons_zero, Act.put, List.setIfInBounds_toArray, List.set_cons_zero, List.set_cons_succ]
                    refine wpAnyT_take (i := 17) (v := .slice aoz 0 cpz) rfl (by decide) (by kernel_rfl) (by kernel_rfl) (by kernel_rfl) (fun _ _ _ h => h) (Or.inl ⟨by rfl, fun w _ => ?_⟩) hHeld ?_
                    · go_simp
                    simp only [List.getElem_toArray, List.getElem_cons_succ, List.getElem_cons_zero, Act.put, List.setIfInBounds_toArray, List.set_cons_zero, List.set_cons_succ]
                    refine wpAnyT_take (i := 18) (v := evz) rfl (by decide) (by kernel_rfl) (by kernel_rfl) (by kernel_rfl) (fun _ _ _ h => h) (Or.inl ⟨by rfl, fun w _ => ?_⟩) hHeld ?_
                    · go_simp
                    simp only [List.getElem_toArray, List.getElem_cons_succ, List.getElem_cons_zero, Act.put, List.setIfInBounds_toArray, List.set_cons_zero, List.set_cons_succ]
                    refine wpAnyT_done (by kernel_rfl) ?_ _
                    go_wp2_with (first | (go_at_call 11; refine (HI12.out _ _ HBZ.out HEZ.out).mono ?_; rintro e w14 ⟨rfl, hb14⟩; have HB14 := Lib.hid (HLA.out _ _ HBZ.out hb14)) | (go_at_call 7; refine (HAL.out _ HB14.out).mono ?_; rintro e w15 ⟨rfl, hb15⟩))
                    go_ret
                    exact ⟨rfl, HLA.out _ _ HB14.out hb15⟩
  · clear hr
    by_cases h5 : 4 < L.length
    · have l1 : (4 : Int) < (L.length : Int) := by omega
      clear hF hs hL hok h4 h5 HS
      go_enter Tryz.func4, Tryz.ntmps4
      go_wp2_with (go_at_call 7; refine (HAL.out _ (Below.refl _ _)).mono ?_; rintro e w2 ⟨rfl, hb2⟩)
      go_ret
      exact ⟨rfl, hb2⟩
    · have l1 : ¬ (4 : Int) < (L.length : Int) := by omega
      have h0 : L = [] := by
        by_cases h : L = []
        · exact h
        · exact absurd ⟨by omega, h⟩ h4
      subst h0
      have l0 : ((([] : List Sn).length : Nat) : Int) = 0 := rfl
      clear hF hs hL hok h4 h5 HS l1
      go_enter Tryz.func4, Tryz.ntmps4
      go_wp2_with (go_at_call 7; refine (HAL.out _ (Below.refl _ _)).mono ?_; rintro e w2 ⟨rfl, hb2⟩)
      go_ret
      exact ⟨rfl, hb2⟩
end Go.Proofs.YticlgcfodlcpcaaGreatDoor
