/-
  text.FromBase64 by its contract: a machine that reads letter by letter.
-/
import Derived.Test.YtopilalefilkjaaGreatDoorConv
import Derived.Test.YtopilalefilkjaaGreatDoorDec
namespace Go.Proofs.YtopilalefilkjaaGreatDoor
open Go.RowKit

def byteN (x : Nat) : UInt8 := UInt8.ofNat x
/-- One letter, at place i: the bits so far, how many '=', whether it is over, the bytes so far; none: it can't stand there. -/
def stepB (i : Nat) (c : UInt8) (bits pads : Nat) (done : Bool) (out : List UInt8) : Option (Nat × Nat × Bool × List UInt8) :=
  if done = true ∨ (idx64 c < 0 ∧ c ≠ 61) ∨ (0 ≤ idx64 c ∧ 0 < pads) ∨ (idx64 c < 0 ∧ i % 4 < 2) then none
  else if idx64 c < 0 then
    if pads = 0 then
      if i % 4 = 3 then (if bits % 4 ≠ 0 then none else some (bits, 1, true, out ++ [byteN (bits / 1024), byteN (bits / 4)]))
      else (if bits % 16 ≠ 0 then none else some (bits, 1, false, out ++ [byteN (bits / 16)]))
    else some (bits, pads + 1, decide (i % 4 = 3), out)
  else some ((if i % 4 = 0 then 0 else bits) * 64 + (idx64 c).toNat, pads, done,
    if i % 4 = 3 then out ++ [byteN ((bits * 64 + (idx64 c).toNat) / 65536), byteN ((bits * 64 + (idx64 c).toNat) / 256), byteN (bits * 64 + (idx64 c).toNat)] else out)
def runB : Nat → Nat → Nat → Bool → List UInt8 → List UInt8 → Except Nat (List UInt8)
  | _, _, _, _, out, [] => .ok out
  | i, bits, pads, done, out, c :: r => match stepB i c bits pads done out with
    | none => .error i
    | some (b, p, d, o) => runB (i + 1) b p d o r
/-- .. and its end. -/
def endB (n : Nat) : Except Nat (List UInt8) → Except Nat (List UInt8)
  | .error i => .error i
  | .ok out => if n % 4 ≠ 0 then .error n else .ok out
/-- FromBase64. -/
def fromB64 (l : List UInt8) : List UInt8 × Nat × Option Int :=
  if 1048576 < l.length then ([], 4, none) else toldAt [] (endB l.length (runB 0 0 0 false [] l))

theorem and_i64 (n k : Nat) (h : n < 9223372036854775808) (hk : 2 ^ k - 1 < 9223372036854775808) : bits .and .i64 (n : Int) ((2 ^ k - 1 : Nat) : Int) = ((n % 2 ^ k : Nat) : Int) := by
  have hx : n &&& (2 ^ k - 1) < 2 ^ 63 := Nat.and_lt_two_pow _ (by omega)
  have e1 : ∀ a : Nat, a < 9223372036854775808 → (BitVec.ofInt 64 (a : Int)).toNat = a := fun a ha => by
    rw [BitVec.ofInt_natCast, BitVec.toNat_ofNat]; exact Nat.mod_eq_of_lt (by omega)
  show IntKind.i64.wrap ((BitVec.ofInt 64 (n : Int) &&& BitVec.ofInt 64 ((2 ^ k - 1 : Nat) : Int)).toNat : Int) = _
  rw [BitVec.toNat_and, e1 n h, e1 _ hk, IntKind.wrap_i64, ← Nat.and_two_pow_sub_one_eq_mod]
  omega
theorem or_i64 (x b k : Nat) (h : b < 2 ^ k) (h2 : x * 2 ^ k + b < 9223372036854775808) : bits .or .i64 ((x * 2 ^ k : Nat) : Int) (b : Int) = ((x * 2 ^ k + b : Nat) : Int) := by
  have e1 : ∀ a : Nat, a < 9223372036854775808 → (BitVec.ofInt 64 (a : Int)).toNat = a := fun a ha => by
    rw [BitVec.ofInt_natCast, BitVec.toNat_ofNat]; exact Nat.mod_eq_of_lt (by omega)
  show IntKind.i64.wrap ((BitVec.ofInt 64 ((x * 2 ^ k : Nat) : Int) ||| BitVec.ofInt 64 (b : Int)).toNat : Int) = _
  rw [BitVec.toNat_or, e1 _ (by omega), e1 _ (by omega), IntKind.wrap_i64, or_low x b k h]
  omega
theorem and3_i64 (n : Nat) (h : n < 9223372036854775808) : bits .and .i64 (n : Int) 3 = (n : Int) % 4 := by
  have := and_i64 n 2 h (by omega)
  simpa using this
theorem and15_i64 (n : Nat) (h : n < 9223372036854775808) : bits .and .i64 (n : Int) 15 = (n : Int) % 16 := by
  have := and_i64 n 4 h (by omega)
  simpa using this
theorem or6_i64 (x b : Nat) (h : b < 64) (h2 : x < 16777216) : bits .or .i64 ((x : Int) * 64) (b : Int) = (x : Int) * 64 + (b : Int) := by
  have := or_i64 x b 6 h (by omega)
  simpa using this

/-- What can't stand at place k. -/
def badB (k : Nat) (c : UInt8) (p : Nat) (d : Bool) : Prop := d = true ∨ (idx64 c < 0 ∧ c ≠ 61) ∨ (0 ≤ idx64 c ∧ 0 < p) ∨ (idx64 c < 0 ∧ k % 4 < 2)
theorem stepB_none {k : Nat} {c : UInt8} {b p : Nat} {d : Bool} {out : List UInt8} (h : badB k c p d) : stepB k c b p d out = none := by unfold badB at h; unfold stepB; rw [if_pos h]
theorem stepB_pad3 {k : Nat} {c : UInt8} {b : Nat} {d : Bool} {out : List UInt8} (h : ¬ badB k c 0 d) (hn : idx64 c < 0) (hk : k % 4 = 3) :
    stepB k c b 0 d out = if b % 4 ≠ 0 then none else some (b, 1, true, out ++ [byteN (b / 1024), byteN (b / 4)]) := by
  unfold badB at h; unfold stepB; rw [if_neg h, if_pos hn, if_pos rfl, if_pos hk]
theorem stepB_pad2 {k : Nat} {c : UInt8} {b : Nat} {d : Bool} {out : List UInt8} (h : ¬ badB k c 0 d) (hn : idx64 c < 0) (hk : k % 4 ≠ 3) :
    stepB k c b 0 d out = if b % 16 ≠ 0 then none else some (b, 1, false, out ++ [byteN (b / 16)]) := by
  unfold badB at h; unfold stepB; rw [if_neg h, if_pos hn, if_pos rfl, if_neg hk]
theorem stepB_pads {k : Nat} {c : UInt8} {b p : Nat} {d : Bool} {out : List UInt8} (h : ¬ badB k c p d) (hn : idx64 c < 0) (hp : p ≠ 0) :
    stepB k c b p d out = some (b, p + 1, decide (k % 4 = 3), out) := by
  unfold badB at h; unfold stepB; rw [if_neg h, if_pos hn, if_neg hp]
theorem stepB_let {k : Nat} {c : UInt8} {b p N : Nat} {d : Bool} {out : List UInt8} (h : ¬ badB k c p d) (hn : idx64 c = N) :
    stepB k c b p d out = some ((if k % 4 = 0 then 0 else b) * 64 + N, p, d, if k % 4 = 3 then out ++ [byteN ((b * 64 + N) / 65536), byteN ((b * 64 + N) / 256), byteN (b * 64 + N)] else out) := by
  unfold badB at h; unfold stepB; rw [if_neg h, if_neg (by omega), hn, Int.toNat_natCast]
theorem byteN_val (x : Nat) : ((byteN x).toNat : Int) = (x : Int) % 256 := by
  unfold byteN
  rw [UInt8.toNat_ofNat']
  omega
theorem cells_app (l m : List UInt8) : Lib.byteCells l ++ Lib.byteCells m = Lib.byteCells (l ++ m) := by simp [Lib.byteCells]

theorem heap_news (w : World) (t : TypeId) (l : List UInt8) (j : Nat) : (w.alloc (.cells (Lib.byteCells l).toArray t)).cell? ((⟨w.heap.size, 0, none⟩ : Addr).add j) = (Lib.byteCells l)[j]? := by
  have : ((⟨w.heap.size, 0, none⟩ : Addr).add j) = ⟨w.heap.size, j, none⟩ := by
    unfold Addr.add
    by_cases h : j = 0
    · subst h; rfl
    · simp [h]
  rw [this, cell_of_row _ _ j _ _ _ (heap_alloc_new w _)]
  simp
theorem byteCells_one (l : List UInt8) (u : Value) (h : u ∈ Lib.byteCells l) : u.oneCell' = true := by
  simp only [Lib.byteCells, List.mem_map] at h
  obtain ⟨b, _, rfl⟩ := h
  rfl

/-- The loop's relation. -/
def F64Rel (s : ByteArray) (w : World) (vo vb vp vd vi : Value) (wr : World) : Prop :=
  ∃ (k b p : Nat) (d : Bool) (out : List UInt8), k ≤ s.size ∧ vi = .int .i64 k ∧ vb = .int .i64 b ∧ vp = .int .i64 p ∧ vd = .bool d ∧ wr.ownsRow w.heap.size 5 1 vo out.length (Lib.byteCells out) ∧
    b < 16777216 ∧ (k % 4 = 1 → b < 64) ∧ (k % 4 = 2 → b < 4096) ∧ (k % 4 = 3 → b < 262144) ∧ p ≤ k ∧ out.length ≤ 3 * k ∧ Below w.heap.size w wr ∧
    runB 0 0 0 false [] s.data.toList = runB k b p d out (s.data.toList.drop k)

end Go.Proofs.YtopilalefilkjaaGreatDoor
