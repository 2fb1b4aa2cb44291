/-
  cartularyref03: group by its contract (printed by wip/gengroup.py). cartularyref03: Wrong64 by its contract.
-/
import Derived.Test.YtopilalefilkjaaGreatDoorRefFH
import Derived.Test.YtopilalefilkjaaGreatDoorBackP
import Derived.Test.YtopilalefilkjaaGreatDoorHex
namespace Go.Proofs.YtopilalefilkjaaGreatDoor
open Go.RowKit

def badAt (l : List UInt8) (k : Nat) : Bool := badG (l.getD 1 0) (l.getD 2 0) k (l.getD k 0)
set_option maxRecDepth 10000 in
theorem groupL_at : ∀ (l : List UInt8) (_ : l.length ≤ 4) (k : Nat), k < l.length → (∀ j < k, badAt l j = false) → badAt l k = true → groupL l = k
  | [], _, k, hk, _, _ => by simp at hk
  | [a], _, k, hk, hj, hb => by
    obtain rfl : k = 0 := by simpa using hk
    have hb : badG 0 0 0 a = true := hb
    rw [gl1, hb]; rfl
  | [a, b], _, k, hk, hj, hb => by
    simp only [List.length_cons, List.length_nil] at hk
    rcases (show k = 0 ∨ k = 1 by omega) with rfl | rfl
    · have hb : badG b 0 0 a = true := hb
      rw [gl2, hb]; rfl
    · have h0 : badG b 0 0 a = false := hj 0 (by omega)
      have hb : badG b 0 1 b = true := hb
      rw [gl2, h0, hb]; rfl
  | [a, b, c], _, k, hk, hj, hb => by
    simp only [List.length_cons, List.length_nil] at hk
    rcases (show k = 0 ∨ k = 1 ∨ k = 2 by omega) with rfl | rfl | rfl
    · have hb : badG b c 0 a = true := hb
      rw [gl3, hb]; rfl
    · have h0 : badG b c 0 a = false := hj 0 (by omega)
      have hb : badG b c 1 b = true := hb
      rw [gl3, h0, hb]; rfl
    · have h0 : badG b c 0 a = false := hj 0 (by omega)
      have h1 : badG b c 1 b = false := hj 1 (by omega)
      have hb : badG b c 2 c = true := hb
      rw [gl3, h0, h1, hb]; rfl
  | [a, b, c, d], _, k, hk, hj, hb => by
    simp only [List.length_cons, List.length_nil] at hk
    rcases (show k = 0 ∨ k = 1 ∨ k = 2 ∨ k = 3 by omega) with rfl | rfl | rfl | rfl
    · have hb : badG b c 0 a = true := hb
      rw [gl4, hb]; rfl
    · have h0 : badG b c 0 a = false := hj 0 (by omega)
      have hb : badG b c 1 b = true := hb
      rw [gl4, h0, hb]; rfl
    · have h0 : badG b c 0 a = false := hj 0 (by omega)
      have h1 : badG b c 1 b = false := hj 1 (by omega)
      have hb : badG b c 2 c = true := hb
      rw [gl4, h0, h1, hb]; rfl
    · have h0 : badG b c 0 a = false := hj 0 (by omega)
      have h1 : badG b c 1 b = false := hj 1 (by omega)
      have h2 : badG b c 2 c = false := hj 2 (by omega)
      have hb : badG b c 3 d = true := hb
      rw [gl4, h0, h1, h2, hb]; rfl
  | _ :: _ :: _ :: _ :: _ :: _, h, _, _, _, _ => by simp at h
set_option maxRecDepth 10000 in
theorem groupL_all : ∀ (l : List UInt8) (_ : l.length ≤ 4), (∀ j < l.length, badAt l j = false) → groupL l = l.length
  | [], _, _ => rfl
  | [a], _, hj => by
    have h0 : badG 0 0 0 a = false := hj 0 (by simp)
    rw [gl1, h0]; rfl
  | [a, b], _, hj => by
    have h0 : badG b 0 0 a = false := hj 0 (by simp)
    have h1 : badG b 0 1 b = false := hj 1 (by simp)
    rw [gl2, h0, h1]; rfl
  | [a, b, c], _, hj => by
    have h0 : badG b c 0 a = false := hj 0 (by simp)
    have h1 : badG b c 1 b = false := hj 1 (by simp)
    have h2 : badG b c 2 c = false := hj 2 (by simp)
    rw [gl3, h0, h1, h2]; rfl
  | [a, b, c, d], _, hj => by
    have h0 : badG b c 0 a = false := hj 0 (by simp)
    have h1 : badG b c 1 b = false := hj 1 (by simp)
    have h2 : badG b c 2 c = false := hj 2 (by simp)
    have h3 : badG b c 3 d = false := hj 3 (by simp)
    rw [gl4, h0, h1, h2, h3]; rfl
  | _ :: _ :: _ :: _ :: _ :: _, h, _ => by simp at h
theorem getD_of {l : List UInt8} {k : Nat} {c : UInt8} (h : l[k]? = some c) : l.getD k 0 = c := by simp [List.getD, h]
theorem ne61 {c : UInt8} (h : c ≠ 61) : ((c.toNat : Int) != 61) = true ∧ ((c.toNat : Int) == 61) = false := by
  have : ¬ (c.toNat : Int) = 61 := fun e => h (UInt8.toNat_inj.1 (by simpa using (by omega : c.toNat = 61)))
  exact ⟨by simpa using this, by simpa using this⟩


end Go.Proofs.YtopilalefilkjaaGreatDoor

namespace Go.Proofs.YtopilalefilkjaaGreatDoor
open Go.RowKit

theorem extract_list (s : ByteArray) (a b : Nat) : (s.extract a b).data.toList = (s.data.toList.drop a).take (b - a) := by simp [List.extract_eq_take_drop]
theorem w64_short (n i : Nat) (g : List UInt8) (h0 : g ≠ []) (h : g.length < 4) : w64 n i g = if groupL g < g.length then ((i + groupL g : Nat) : Int) else (n : Int) := by
  match g, h0, h with
  | [a], _, _ => rfl
  | [a, b], _, _ => rfl
  | [a, b, c], _, _ => rfl
  | _ :: _ :: _ :: _ :: _, _, h => simp at h; omega
theorem groupL_le (g : List UInt8) (h : g.length ≤ 4) : groupL g ≤ g.length := by
  match g, h with
  | [], _ => exact Nat.le_refl _
  | [a], _ => rw [gl1]; split <;> simp
  | [a, b], _ => rw [gl2]; repeat' split
                 all_goals simp
  | [a, b, c], _ => rw [gl3]; repeat' split
                    all_goals simp
  | [a, b, c, d], _ => rw [gl4]; repeat' split
                       all_goals simp
  | _ :: _ :: _ :: _ :: _ :: _, h => simp at h
def W64Rel (s : ByteArray) (v : Value) : Prop :=
  ∃ k : Nat, k ≤ s.size ∧ v = .int .i64 k ∧ w64 s.size 0 s.data.toList = w64 s.size k (s.data.toList.drop k)

end Go.Proofs.YtopilalefilkjaaGreatDoor
