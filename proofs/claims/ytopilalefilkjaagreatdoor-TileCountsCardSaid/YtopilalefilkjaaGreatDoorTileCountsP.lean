/-
  Layer 11, plain: what cartularylaw11.TileCounts looks at: the widths of each level, together, and whether a tile is one of the log's.
-/
import Derived.Test.YtopilalefilkjaaGreatDoorTileAll
namespace Go.Proofs.YtopilalefilkjaaGreatDoor
open Go.RowKit

def sumRow (l : List T3) : Array Value := #[.int .u64 (sumW 0 l : Int), .int .u64 (sumW 1 l : Int), .int .u64 (sumW 2 l : Int), .int .u64 0, .int .u64 0, .int .u64 0, .int .u64 0, .int .u64 0]
def metB (x y z : Int) (l : List T3) : Bool := l.any fun t => (((t.1 : Int) == x) && ((t.2.1 : Int) == y)) && ((t.2.2 : Int) == z)
theorem metB_take {l : List T3} {k : Nat} {t : T3} (h : l[k]? = some t) (x y z : Int) : metB x y z (l.take (k + 1)) = (metB x y z (l.take k) || ((((t.1 : Int) == x) && ((t.2.1 : Int) == y)) && ((t.2.2 : Int) == z))) := by
  rw [take_next h]
  simp [metB]
theorem inW_pos {v i Z : Nat} (hZ : Z ≤ 1048576) (h : i < nT Z v) (hv : v ≤ 7) : 1 ≤ inW v i Z ∧ inW v i Z ≤ 256 := by
  have := ((inP_iff Z v i hZ hv).2 h).2.2
  unfold inW
  omega
theorem in_met (L I Z : Nat) (hZ : Z ≤ 1048576) : ∃ x y z : Int, ∃ k : Bool, inV L I Z = .tuple #[.agg #[.int .u8 x, .int .u64 y, .int .i64 z], .bool k] ∧ metB x y z (pre Z 8) = k := by
  by_cases hp : InP L I Z
  · refine ⟨L, I, inW L I Z, true, by unfold inV; rw [if_pos hp]; rfl, ?_⟩
    have hL := hp.1
    have hm := mem_pre Z 8 L I (by omega) ((inP_iff Z L I hZ hL).1 hp)
    unfold metB
    rw [List.any_eq_true]
    exact ⟨_, hm, by simp [mkT]⟩
  · refine ⟨0, 0, 0, false, by unfold inV; rw [if_neg hp]; rfl, ?_⟩
    unfold metB
    rw [List.any_eq_false]
    intro t ht
    obtain ⟨v, i, rfl, hv, hi⟩ := pre_mem Z 8 t ht
    have := (inW_pos hZ hi (by omega)).1
    simp only [mkT, Bool.and_eq_true, beq_iff_eq, not_and]
    intro _ _
    omega
theorem sum_bound (Z v i : Nat) (hZ : Z ≤ 1048576) : sumW v ((pre Z 8).take i) ≤ 3145728 := by
  have h := sumW_le v ((pre Z 8).take i) (fun t ht => by
    obtain ⟨u, j, rfl, hu, hj⟩ := pre_mem Z 8 t (List.mem_of_mem_take ht)
    exact (inW_pos hZ hj (by omega)).2)
  have h1 := pre_len Z 8 hZ
  have h2 : ((pre Z 8).take i).length ≤ 12288 := by rw [List.length_take]; omega
  omega
theorem sum_all (Z v : Nat) (hv : v < 8) : sumW v ((pre Z 8).take (pre Z 8).length) = cnt Z v := by
  rw [List.take_length, sumW_pre, if_pos hv]
theorem row_get (l : List T3) (v : Nat) (hv : v ≤ 2) : (sumRow l)[v]? = some (.int .u64 (sumW v l : Int)) := by
  rcases show v = 0 ∨ v = 1 ∨ v = 2 by omega with rfl | rfl | rfl <;> rfl
theorem row_set (l : List T3) (v : Nat) (hv : v ≤ 2) (t : T3) (ht : t.1 = v) (k : Nat) (h : l[k]? = some t) : (sumRow (l.take k)).setIfInBounds v (.int .u64 ((sumW v (l.take k) : Int) + (t.2.2 : Int))) = sumRow (l.take (k + 1)) := by
  have hs := sumW_take h
  rcases show v = 0 ∨ v = 1 ∨ v = 2 by omega with rfl | rfl | rfl <;> (unfold sumRow; rw [hs 0, hs 1, hs 2, ht]; simp)

def CntRel (w2 : World) (x y z : Int) (P : List T3) (vm vi : Value) (wr : World) : Prop :=
  ∃ i : Nat, i ≤ P.length ∧ vi = .int .i64 (i : Int) ∧ vm = .bool (metB x y z (P.take i)) ∧ wr.heap[w2.heap.size + 1]? = some (.cells (sumRow (P.take i)) 53) ∧ Below (w2.heap.size + 1) (w2.alloc (.cells #[.int .u8 x, .int .u64 y, .int .i64 z] 24)) wr
end Go.Proofs.YtopilalefilkjaaGreatDoor
