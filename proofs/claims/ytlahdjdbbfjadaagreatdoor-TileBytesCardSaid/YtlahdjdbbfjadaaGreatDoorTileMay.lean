/-
  Layer 11: may a tree be, may a tile be; a tree's stretch of leaves: the program's functions and the reference's, by contracts.
-/
import Derived.Test.YtlahdjdbbfjadaaGreatDoorBase
import Derived.Test.YtlahdjdbbfjadaaGreatDoorCode
import Derived.Test.YtlahdjdbbfjadaaGreatDoorSame
namespace Go.Proofs.YtlahdjdbbfjadaaGreatDoor
open Go.RowKit

def fitsR : Nat → Nat → Bool
  | n, 0 => decide (n ≤ 9223372036854775808)
  | n, k + 1 => if 4611686018427387904 < n then false else fitsR (2 * n) k
theorem fitsR_eq : ∀ (k n : Nat), fitsR n k = decide (n * 2 ^ k ≤ 9223372036854775808)
  | 0, n => by simp [fitsR]
  | k + 1, n => by
    unfold fitsR
    have hp : 1 ≤ 2 ^ k := Nat.one_le_two_pow
    have e : n * 2 ^ (k + 1) = 2 * n * 2 ^ k := by rw [Nat.pow_succ]; rw [Nat.mul_comm (2 ^ k) 2, ← Nat.mul_assoc, Nat.mul_comm n 2]
    split
    · have h2 : 2 * n * 1 ≤ 2 * n * 2 ^ k := Nat.mul_le_mul_left _ hp
      symm
      rw [decide_eq_false_iff_not, e]
      omega
    · rw [fitsR_eq k, e]
def FitsRel (n k : Nat) (vn vi : Value) : Prop := ∃ j m : Nat, j ≤ k ∧ m ≤ 18446744073709551615 ∧ vn = .int .u64 m ∧ vi = .int .u64 j ∧ fitsR n k = fitsR m (k - j)
def NodesRel (s k : Nat) (vn vi : Value) : Prop := ∃ j : Nat, j ≤ k ∧ vn = .int .u64 ((s / 2 ^ j : Nat) : Int) ∧ vi = .int .u64 j
set_option maxHeartbeats 1000000 in
theorem nodes_any (s k : Nat) (hs : s ≤ 18446744073709551615) (hk : k ≤ 64) (w : World) :
    Calls Tryz.prog 87 #[.int .u64 s, .int .u64 k] w fun e w' => e = .returned (.int .u64 ((s / 2 ^ k : Nat) : Int)) ∧ w = w' := by
  have HK := Lib.hid hk
  go_enter Tryz.func87, Tryz.ntmps87
  go_wp2_with fail
  go_loop [0, 5] (fun vn vi => NodesRel s k vn vi) (fun _ vi => k - (intOf vi).toNat)
  case atStart => exact ⟨0, by omega, by simp, rfl⟩
  case round =>
    obtain ⟨j, hj, rfl, rfl⟩ := hrel
    have hle : s / 2 ^ j ≤ s := Nat.div_le_self _ _
    have hnx : s / 2 ^ (j + 1) = s / 2 ^ j / 2 := by rw [Nat.pow_succ, Nat.div_div_eq_div_mul]
    have HN := Lib.hid hnx
    clear hnx
    generalize hq : s / 2 ^ j = q at *
    by_cases hlt : j < k
    · have hl' : (j : Int) < k := by omega
      have htd : IntKind.u64.wrap ((q : Int).tdiv 2) = ((q / 2 : Nat) : Int) := by
        rw [Int.tdiv_eq_ediv_of_nonneg (by omega), IntKind.wrap_u64]; omega
      go_wp2_with fail
      go_round
      case rel => exact ⟨j + 1, by omega, by rw [HN.out]; first | (rw [htd]) | rfl, by go_num⟩
      case measure => simp [intOf]; omega
    · have hl' : ¬ (j : Int) < k := by omega
      obtain rfl : j = k := by omega
      go_wp2_with fail
      go_ret
      refine ⟨?_, rfl⟩
      rfl

theorem results_row1 {P : Program} {fn : Func} {u p : Tmp} {ty : TypeId} (h : fn.results = #[.cell p ty, .tmp u]) (tmps : Array Value) (w : World) (g : Nat) (t : TypeId) (cs : Array Value) (fr : Nat × Nat) (d : TypeDesc)
    (hp : tmps.getD p undef = .pointer (some ⟨g, 0, none⟩)) (hg : w.heap[g]? = some (.cells cs t fr))
    (hu : P.underlying ty = some d) (hd : (match d with | .struct _ | .array _ _ => true | _ => false) = true) (hi : (P.info? ty).map (·.size) = some cs.size) :
    (results fn tmps).run P w = .ok (.tuple #[.agg cs, tmps.getD u undef]) w := by
  have hp' : tmps[p]?.getD undef = .pointer (some ⟨g, 0, none⟩) := by simpa using hp
  simp [results, h, hp', asAddr, run_loadVar_row w g t ty cs fr d hg hu hd hi, Result.andThen]
theorem results_row3 {P : Program} {fn : Func} {a b u p : Tmp} {ty : TypeId} (h : fn.results = #[.cell p ty, .tmp a, .tmp b, .tmp u]) (tmps : Array Value) (w : World) (g : Nat) (t : TypeId) (cs : Array Value) (fr : Nat × Nat) (d : TypeDesc)
    (hp : tmps.getD p undef = .pointer (some ⟨g, 0, none⟩)) (hg : w.heap[g]? = some (.cells cs t fr))
    (hu : P.underlying ty = some d) (hd : (match d with | .struct _ | .array _ _ => true | _ => false) = true) (hi : (P.info? ty).map (·.size) = some cs.size) :
    (results fn tmps).run P w = .ok (.tuple #[.agg cs, tmps.getD a undef, tmps.getD b undef, tmps.getD u undef]) w := by
  have hp' : tmps[p]?.getD undef = .pointer (some ⟨g, 0, none⟩) := by simpa using hp
  simp [results, h, hp', asAddr, run_loadVar_row w g t ty cs fr d hg hu hd hi, Result.andThen]
theorem tileInfo : (Tryz.prog.info? 93).map (·.size) = some 3 := by kernel_rfl
theorem spanInfo : (Tryz.prog.info? 134).map (·.size) = some 2 := by kernel_rfl
/-- A tile's cells. -/
def tileV (L I W : Int) : Array Value := #[.int .u8 L, .int .u64 I, .int .i64 W]
theorem ret_tile {fn : Func} {u p : Tmp} (hf : fn.results = #[.cell p 93, .tmp u]) {Q : Ending → World → Prop} {a : Act} {w : World} (g : Nat) (L I W : Int) (v : Value)
    (hg : w.heap[g]? = some (.cells (tileV L I W) 93 (0, 0))) (hd : a.defers = []) (hp : a.tmps.getD p undef = .pointer (some ⟨g, 0, none⟩)) (hv : a.tmps.getD u undef = v) (hQ : Q (.returned (.tuple #[.agg (tileV L I W), v])) w) : bodyPost Tryz.prog fn Q .ret a w := by
  refine bodyPost_ret (v := .tuple #[.agg (tileV L I W), v]) ?_ hd hQ
  rw [← hv]
  exact results_row1 hf _ _ g 93 _ (0, 0) _ hp hg Tryz.underlying93 rfl tileInfo
theorem ret_tile3 {fn : Func} {b c u p : Tmp} (hf : fn.results = #[.cell p 93, .tmp b, .tmp c, .tmp u]) {Q : Ending → World → Prop} {a : Act} {w : World} (g : Nat) (L I W : Int) (v1 v2 v : Value)
    (hg : w.heap[g]? = some (.cells (tileV L I W) 93 (0, 0))) (hd : a.defers = []) (hp : a.tmps.getD p undef = .pointer (some ⟨g, 0, none⟩)) (hv1 : a.tmps.getD b undef = v1) (hv2 : a.tmps.getD c undef = v2) (hv : a.tmps.getD u undef = v)
    (hQ : Q (.returned (.tuple #[.agg (tileV L I W), v1, v2, v])) w) : bodyPost Tryz.prog fn Q .ret a w := by
  refine bodyPost_ret (v := .tuple #[.agg (tileV L I W), v1, v2, v]) ?_ hd hQ
  rw [← hv, ← hv1, ← hv2]
  exact results_row3 hf _ _ g 93 _ (0, 0) _ hp hg Tryz.underlying93 rfl tileInfo
theorem ret_span {fn : Func} {u p : Tmp} (hf : fn.results = #[.cell p 134, .tmp u]) {Q : Ending → World → Prop} {a : Act} {w : World} (g : Nat) (x y v : Value)
    (hg : w.heap[g]? = some (.cells #[x, y] 134 (0, 0))) (hd : a.defers = []) (hp : a.tmps.getD p undef = .pointer (some ⟨g, 0, none⟩)) (hv : a.tmps.getD u undef = v) (hQ : Q (.returned (.tuple #[.agg #[x, y], v])) w) : bodyPost Tryz.prog fn Q .ret a w := by
  refine bodyPost_ret (v := .tuple #[.agg #[x, y], v]) ?_ hd hQ
  rw [← hv]
  exact results_row1 hf _ _ g 134 _ (0, 0) _ hp hg Tryz.underlying134 rfl spanInfo
theorem set3_heap {W : World} {g : Nat} {a b c x y z : Value} {t : TypeId} {fr : Nat × Nat} (h : W.heap[g]? = some (.cells #[a, b, c] t fr)) :
    (((W.setCell ⟨g, 0, none⟩ x).setCell ⟨g, 1, none⟩ y).setCell ⟨g, 2, none⟩ z).heap[g]? = some (.cells #[x, y, z] t fr) := by
  simp [World.setCell, Array.getElem?_modify, h]
theorem set2_heap {W : World} {g : Nat} {a b x y : Value} {t : TypeId} {fr : Nat × Nat} (h : W.heap[g]? = some (.cells #[a, b] t fr)) :
    ((W.setCell ⟨g, 0, none⟩ x).setCell ⟨g, 1, none⟩ y).heap[g]? = some (.cells #[x, y] t fr) := by
  simp [World.setCell, Array.getElem?_modify, h]
theorem heap_one (w : World) (o : Obj) : (w.alloc o).heap[w.heap.size]? = some o := heap_alloc_new w o
theorem heap_2a (w : World) (o p : Obj) : ((w.alloc o).alloc p).heap[w.heap.size]? = some o := heap_alloc2_old w o p
theorem heap_2b (w : World) (o p : Obj) : ((w.alloc o).alloc p).heap[w.heap.size + 1]? = some p := heap_alloc2_new w o p
theorem cell_of {W : World} {g : Nat} {cs : Array Value} {t : TypeId} {fr : Nat × Nat} (h : W.heap[g]? = some (.cells cs t fr)) (i : Nat) {v : Value} (hv : cs[i]? = some v) : W.cell? ⟨g, i, none⟩ = some v := by
  simp [World.cell?, h, hv]
theorem below_two (w : World) (o p : Obj) : Below w.heap.size w ((w.alloc o).alloc p) := ((Below.refl _ _).alloc (Nat.le_refl _) _).alloc (by simp) _
theorem below_one (w : World) (o : Obj) : Below w.heap.size w (w.alloc o) := (Below.refl _ _).alloc (Nat.le_refl _) _

/-- May a tree be? -/
def WholeP (L I : Nat) : Prop := L ≤ 63 ∧ (I + 1) * 2 ^ L ≤ 9223372036854775808
instance (L I : Nat) : Decidable (WholeP L I) := inferInstanceAs (Decidable (_ ∧ _))
theorem lt_shr (I L : Nat) : (I : Int) < 9223372036854775808 / 2 ^ L ↔ (I + 1) * 2 ^ L ≤ 9223372036854775808 := by
  have h2 : 0 < 2 ^ L := Nat.two_pow_pos L
  have e : (9223372036854775808 / 2 ^ L : Int) = ((9223372036854775808 / 2 ^ L : Nat) : Int) := by rw [Int.natCast_ediv, Int.natCast_pow]; rfl
  rw [e, ← Nat.le_div_iff_mul_le h2]
  omega
set_option maxHeartbeats 1000000 in
theorem coordMay_any (L I : Nat) (_hL : L ≤ 255) (_hI : I ≤ 18446744073709551615) (w : World) :
    Calls Tryz.prog 143 #[.agg #[.int .u8 L, .int .u64 I]] w fun e w' => e = .returned (.bool (decide (WholeP L I))) ∧ Below w.heap.size w w' := by
  by_cases h1 : L ≤ 63
  · have h1' : (L : Int) ≤ 63 := by omega
    go_enter Tryz.func143, Tryz.ntmps143
    go_wp2_with fail
    go_ret
    refine ⟨ret_bool ?_, below_one _ _⟩
    refine decide_eq_decide.2 ?_
    unfold WholeP
    rw [lt_shr]
    omega
  · have h1' : ¬ (L : Int) ≤ 63 := by omega
    go_enter Tryz.func143, Tryz.ntmps143
    go_wp2_with fail
    go_ret
    refine ⟨ret_bool ?_, below_one _ _⟩
    symm
    rw [decide_eq_false_iff_not]
    exact fun h => h1 h.1
set_option maxHeartbeats 1000000 in
theorem widest_any (L : Nat) (_hL : L ≤ 255) (w : World) :
    Calls Tryz.prog 126 #[.int .u8 L] w fun e w' => e = .returned (.int .i64 (if L = 7 then 128 else 256)) ∧ w = w' := by
  by_cases h : L = 7
  · subst h
    go_enter Tryz.func126, Tryz.ntmps126
    go_wp2_with fail
    go_ret
    exact ⟨rfl, rfl⟩
  · have h' : ((L : Int) == 7) = false := by rw [beq_eq_false_iff_ne]; omega
    rw [if_neg h]
    go_enter Tryz.func126, Tryz.ntmps126
    go_wp2_with fail
    go_ret
    exact ⟨rfl, rfl⟩
end Go.Proofs.YtlahdjdbbfjadaaGreatDoor
