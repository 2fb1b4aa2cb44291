/-
  PROVED: cartularylaw11.TileNames returns true (a closed statement; the tied card of its row): the chapter's names and refusals. Conditions: those of the row.
-/
import Derived.Test.YtopilalefilkjaaGreatDoorTileLives
import Derived.Test.YtopilalefilkjaaGreatDoorHashD
import Derived.Test.YtopilalefilkjaaGreatDoorTileNamesFrame
import Derived.Deep.CutRange
import Derived.Deep.DeepCutAuto
import Derived.StillTailTactics
import Derived.Outline
namespace Go.Proofs.YtopilalefilkjaaGreatDoor
open Go.RowKit

theorem ret_hash {fn : Func} {u p : Tmp} (hf : fn.results = #[.cell p 86, .tmp u]) {Q : Ending → World → Prop} {a : Act} {w : World} (g : Nat) (cs : Array Value) (hcs : cs.size = 32) (v : Value)
    (hg : w.heap[g]? = some (.cells cs 86 (0, 0))) (hd : a.defers = []) (hp : a.tmps.getD p undef = .pointer (some ⟨g, 0, none⟩)) (hv : a.tmps.getD u undef = v) (hQ : Q (.returned (.tuple #[.agg cs, v])) w) : bodyPost Tryz.prog fn Q .ret a w := by
  refine bodyPost_ret (v := .tuple #[.agg cs, v]) ?_ hd hQ
  rw [← hv]
  exact results_row1 hf _ _ g 86 _ (0, 0) _ hp hg Tryz.underlying86 rfl (by rw [hcs]; exact hashInfo)
set_option maxHeartbeats 2000000 in
set_option maxRecDepth 100000 in
theorem hash_12 (S : Nat → Addr) (g : Nat) (w : World) (hB : Base S w) :
    Calls Tryz.prog 33 #[.slice (some ⟨g, 0, none⟩) 4 4, .int .i64 1, .int .i64 2] w fun e w' => e = .returned (.tuple #[.agg #[.int .u8 0, .int .u8 0, .int .u8 0, .int .u8 0, .int .u8 0, .int .u8 0, .int .u8 0, .int .u8 0, .int .u8 0, .int .u8 0, .int .u8 0, .int .u8 0, .int .u8 0, .int .u8 0, .int .u8 0, .int .u8 0, .int .u8 0, .int .u8 0, .int .u8 0, .int .u8 0, .int .u8 0, .int .u8 0, .int .u8 0, .int .u8 0, .int .u8 0, .int .u8 0, .int .u8 0, .int .u8 0, .int .u8 0, .int .u8 0, .int .u8 0, .int .u8 0], errV S 2]) ∧ Below w.heap.size w w' := by
  have g2 := hB.var 2 (by omega) (by omega)
  simp only [errG, errV] at g2 ⊢
  have l0 : 0 < w.heap.size := lt_of_cell g2
  clear hB
  have hb : bits .and .i64 2 1 = 0 := by rfl
  have R6 := Lib.hid (heap_one w (.cells #[.int .u8 0, .int .u8 0, .int .u8 0, .int .u8 0, .int .u8 0, .int .u8 0, .int .u8 0, .int .u8 0, .int .u8 0, .int .u8 0, .int .u8 0, .int .u8 0, .int .u8 0, .int .u8 0, .int .u8 0, .int .u8 0, .int .u8 0, .int .u8 0, .int .u8 0, .int .u8 0, .int .u8 0, .int .u8 0, .int .u8 0, .int .u8 0, .int .u8 0, .int .u8 0, .int .u8 0, .int .u8 0, .int .u8 0, .int .u8 0, .int .u8 0, .int .u8 0] 86))
  go_enter Tryz.func33, Tryz.ntmps33
  go_wp2_with fail
  refine wp_region_any (by kernel_rfl) ?_
  change wpAny _ _ _ _ _ _ _ (World.drew _)
  refine wpAny_take (i := 0) (v := (.agg #[.int .u8 0, .int .u8 0, .int .u8 0, .int .u8 0, .int .u8 0, .int .u8 0, .int .u8 0, .int .u8 0, .int .u8 0, .int .u8 0, .int .u8 0, .int .u8 0, .int .u8 0, .int .u8 0, .int .u8 0, .int .u8 0, .int .u8 0, .int .u8 0, .int .u8 0, .int .u8 0, .int .u8 0, .int .u8 0, .int .u8 0, .int .u8 0, .int .u8 0, .int .u8 0, .int .u8 0, .int .u8 0, .int .u8 0, .int .u8 0, .int .u8 0, .int .u8 0])) rfl (by kernel_rfl) (by kernel_rfl) (by kernel_rfl) (fun _ _ _ h => h) (Or.inl ⟨by rfl, ?_⟩) ?_
  · intro w
    kernel_rfl
  simp only [List.getElem_toArray, List.getElem_cons_zero, Act.put, List.setIfInBounds_toArray, List.set_cons_zero, List.set_cons_succ]
  have hz : (((w.alloc (.cells #[.int .u8 0, .int .u8 0, .int .u8 0, .int .u8 0, .int .u8 0, .int .u8 0, .int .u8 0, .int .u8 0, .int .u8 0, .int .u8 0, .int .u8 0, .int .u8 0, .int .u8 0, .int .u8 0, .int .u8 0, .int .u8 0, .int .u8 0, .int .u8 0, .int .u8 0, .int .u8 0, .int .u8 0, .int .u8 0, .int .u8 0, .int .u8 0, .int .u8 0, .int .u8 0, .int .u8 0, .int .u8 0, .int .u8 0, .int .u8 0, .int .u8 0, .int .u8 0] 86)).drew).setRow w.heap.size #[.int .u8 0, .int .u8 0, .int .u8 0, .int .u8 0, .int .u8 0, .int .u8 0, .int .u8 0, .int .u8 0, .int .u8 0, .int .u8 0, .int .u8 0, .int .u8 0, .int .u8 0, .int .u8 0, .int .u8 0, .int .u8 0, .int .u8 0, .int .u8 0, .int .u8 0, .int .u8 0, .int .u8 0, .int .u8 0, .int .u8 0, .int .u8 0, .int .u8 0, .int .u8 0, .int .u8 0, .int .u8 0, .int .u8 0, .int .u8 0, .int .u8 0, .int .u8 0]).heap[w.heap.size]? = some (.cells #[.int .u8 0, .int .u8 0, .int .u8 0, .int .u8 0, .int .u8 0, .int .u8 0, .int .u8 0, .int .u8 0, .int .u8 0, .int .u8 0, .int .u8 0, .int .u8 0, .int .u8 0, .int .u8 0, .int .u8 0, .int .u8 0, .int .u8 0, .int .u8 0, .int .u8 0, .int .u8 0, .int .u8 0, .int .u8 0, .int .u8 0, .int .u8 0, .int .u8 0, .int .u8 0, .int .u8 0, .int .u8 0, .int .u8 0, .int .u8 0, .int .u8 0, .int .u8 0] 86) := setRow_heap _ _ _ _ _ _ R6.out
  have hbz : Below w.heap.size w (((w.alloc (.cells #[.int .u8 0, .int .u8 0, .int .u8 0, .int .u8 0, .int .u8 0, .int .u8 0, .int .u8 0, .int .u8 0, .int .u8 0, .int .u8 0, .int .u8 0, .int .u8 0, .int .u8 0, .int .u8 0, .int .u8 0, .int .u8 0, .int .u8 0, .int .u8 0, .int .u8 0, .int .u8 0, .int .u8 0, .int .u8 0, .int .u8 0, .int .u8 0, .int .u8 0, .int .u8 0, .int .u8 0, .int .u8 0, .int .u8 0, .int .u8 0, .int .u8 0, .int .u8 0] 86)).drew).setRow w.heap.size #[.int .u8 0, .int .u8 0, .int .u8 0, .int .u8 0, .int .u8 0, .int .u8 0, .int .u8 0, .int .u8 0, .int .u8 0, .int .u8 0, .int .u8 0, .int .u8 0, .int .u8 0, .int .u8 0, .int .u8 0, .int .u8 0, .int .u8 0, .int .u8 0, .int .u8 0, .int .u8 0, .int .u8 0, .int .u8 0, .int .u8 0, .int .u8 0, .int .u8 0, .int .u8 0, .int .u8 0, .int .u8 0, .int .u8 0, .int .u8 0, .int .u8 0, .int .u8 0]) := below_setRow (below_one w _).drew (Nat.le_refl _) _
  have RZ := Lib.hid hz
  have BZ := Lib.hid hbz
  have l0w := lt_of_heap hz
  have g2w := below_cell hbz g2
  have l0z : 0 < (((w.alloc (.cells #[.int .u8 0, .int .u8 0, .int .u8 0, .int .u8 0, .int .u8 0, .int .u8 0, .int .u8 0, .int .u8 0, .int .u8 0, .int .u8 0, .int .u8 0, .int .u8 0, .int .u8 0, .int .u8 0, .int .u8 0, .int .u8 0, .int .u8 0, .int .u8 0, .int .u8 0, .int .u8 0, .int .u8 0, .int .u8 0, .int .u8 0, .int .u8 0, .int .u8 0, .int .u8 0, .int .u8 0, .int .u8 0, .int .u8 0, .int .u8 0, .int .u8 0, .int .u8 0] 86)).drew).setRow w.heap.size #[.int .u8 0, .int .u8 0, .int .u8 0, .int .u8 0, .int .u8 0, .int .u8 0, .int .u8 0, .int .u8 0, .int .u8 0, .int .u8 0, .int .u8 0, .int .u8 0, .int .u8 0, .int .u8 0, .int .u8 0, .int .u8 0, .int .u8 0, .int .u8 0, .int .u8 0, .int .u8 0, .int .u8 0, .int .u8 0, .int .u8 0, .int .u8 0, .int .u8 0, .int .u8 0, .int .u8 0, .int .u8 0, .int .u8 0, .int .u8 0, .int .u8 0, .int .u8 0]).heap.size := Nat.lt_of_lt_of_le l0 hbz.size
  clear hz hbz
  refine wpAny_ready (rs := [1, 2]) (by kernel_rfl) (by simp) ?_
  refine AllReady.cons rfl (fun K hK => ?_) (AllReady.cons rfl (fun K hK => ?_) AllReady.nil)
  · go_simp
    refine hK _ _ ?_
    clear hK K
    refine wpAny_ready (rs := [2]) (by kernel_rfl) (by simp) ?_
    refine AllReady.cons rfl (fun K hK => ?_) AllReady.nil
    rw [if_pos (by rfl)]
    refine wp_store_row 86 (.tmp 6) (.tmp 46) (by rfl) w.heap.size #[.int .u8 0, .int .u8 0, .int .u8 0, .int .u8 0, .int .u8 0, .int .u8 0, .int .u8 0, .int .u8 0, .int .u8 0, .int .u8 0, .int .u8 0, .int .u8 0, .int .u8 0, .int .u8 0, .int .u8 0, .int .u8 0, .int .u8 0, .int .u8 0, .int .u8 0, .int .u8 0, .int .u8 0, .int .u8 0, .int .u8 0, .int .u8 0, .int .u8 0, .int .u8 0, .int .u8 0, .int .u8 0, .int .u8 0, .int .u8 0, .int .u8 0, .int .u8 0] (by rfl) (by rfl) 86 #[.int .u8 0, .int .u8 0, .int .u8 0, .int .u8 0, .int .u8 0, .int .u8 0, .int .u8 0, .int .u8 0, .int .u8 0, .int .u8 0, .int .u8 0, .int .u8 0, .int .u8 0, .int .u8 0, .int .u8 0, .int .u8 0, .int .u8 0, .int .u8 0, .int .u8 0, .int .u8 0, .int .u8 0, .int .u8 0, .int .u8 0, .int .u8 0, .int .u8 0, .int .u8 0, .int .u8 0, .int .u8 0, .int .u8 0, .int .u8 0, .int .u8 0, .int .u8 0] R6.out (by exact hashInfo) (by rfl) (by exact byteCells_one (List.replicate 32 0)) ?_
    refine hK _ _ ?_
    clear hK K
    change wpAny _ _ _ _ _ _ _ (World.setRow (World.drew _) _ _)
    generalize ((w.alloc (.cells #[.int .u8 0, .int .u8 0, .int .u8 0, .int .u8 0, .int .u8 0, .int .u8 0, .int .u8 0, .int .u8 0, .int .u8 0, .int .u8 0, .int .u8 0, .int .u8 0, .int .u8 0, .int .u8 0, .int .u8 0, .int .u8 0, .int .u8 0, .int .u8 0, .int .u8 0, .int .u8 0, .int .u8 0, .int .u8 0, .int .u8 0, .int .u8 0, .int .u8 0, .int .u8 0, .int .u8 0, .int .u8 0, .int .u8 0, .int .u8 0, .int .u8 0, .int .u8 0] 86)).drew).setRow w.heap.size #[.int .u8 0, .int .u8 0, .int .u8 0, .int .u8 0, .int .u8 0, .int .u8 0, .int .u8 0, .int .u8 0, .int .u8 0, .int .u8 0, .int .u8 0, .int .u8 0, .int .u8 0, .int .u8 0, .int .u8 0, .int .u8 0, .int .u8 0, .int .u8 0, .int .u8 0, .int .u8 0, .int .u8 0, .int .u8 0, .int .u8 0, .int .u8 0, .int .u8 0, .int .u8 0, .int .u8 0, .int .u8 0, .int .u8 0, .int .u8 0, .int .u8 0, .int .u8 0] = ws at *
    refine wpAny_ready (rs := [3]) (by kernel_rfl) (by simp) ?_
    refine AllReady.cons rfl (fun K hK => ?_) AllReady.nil
    go_simp
    refine hK _ _ ?_
    clear hK K
    refine wpAny_done (by kernel_rfl) ?_ _
    simp only [Exit.then]
    go_wp2_with fail
    exact ret_hash rfl w.heap.size #[.int .u8 0, .int .u8 0, .int .u8 0, .int .u8 0, .int .u8 0, .int .u8 0, .int .u8 0, .int .u8 0, .int .u8 0, .int .u8 0, .int .u8 0, .int .u8 0, .int .u8 0, .int .u8 0, .int .u8 0, .int .u8 0, .int .u8 0, .int .u8 0, .int .u8 0, .int .u8 0, .int .u8 0, .int .u8 0, .int .u8 0, .int .u8 0, .int .u8 0, .int .u8 0, .int .u8 0, .int .u8 0, .int .u8 0, .int .u8 0, .int .u8 0, .int .u8 0] rfl (.iface 381 (.pointer (some (S 2)))) RZ.out rfl rfl rfl ⟨rfl, BZ.out⟩
  · rw [if_pos (by rfl)]
    refine wp_store_row 86 (.tmp 6) (.tmp 46) (by rfl) w.heap.size #[.int .u8 0, .int .u8 0, .int .u8 0, .int .u8 0, .int .u8 0, .int .u8 0, .int .u8 0, .int .u8 0, .int .u8 0, .int .u8 0, .int .u8 0, .int .u8 0, .int .u8 0, .int .u8 0, .int .u8 0, .int .u8 0, .int .u8 0, .int .u8 0, .int .u8 0, .int .u8 0, .int .u8 0, .int .u8 0, .int .u8 0, .int .u8 0, .int .u8 0, .int .u8 0, .int .u8 0, .int .u8 0, .int .u8 0, .int .u8 0, .int .u8 0, .int .u8 0] (by rfl) (by rfl) 86 #[.int .u8 0, .int .u8 0, .int .u8 0, .int .u8 0, .int .u8 0, .int .u8 0, .int .u8 0, .int .u8 0, .int .u8 0, .int .u8 0, .int .u8 0, .int .u8 0, .int .u8 0, .int .u8 0, .int .u8 0, .int .u8 0, .int .u8 0, .int .u8 0, .int .u8 0, .int .u8 0, .int .u8 0, .int .u8 0, .int .u8 0, .int .u8 0, .int .u8 0, .int .u8 0, .int .u8 0, .int .u8 0, .int .u8 0, .int .u8 0, .int .u8 0, .int .u8 0] R6.out (by exact hashInfo) (by rfl) (by exact byteCells_one (List.replicate 32 0)) ?_
    refine hK _ _ ?_
    clear hK K
    change wpAny _ _ _ _ _ _ _ (World.setRow (World.drew _) _ _)
    generalize ((w.alloc (.cells #[.int .u8 0, .int .u8 0, .int .u8 0, .int .u8 0, .int .u8 0, .int .u8 0, .int .u8 0, .int .u8 0, .int .u8 0, .int .u8 0, .int .u8 0, .int .u8 0, .int .u8 0, .int .u8 0, .int .u8 0, .int .u8 0, .int .u8 0, .int .u8 0, .int .u8 0, .int .u8 0, .int .u8 0, .int .u8 0, .int .u8 0, .int .u8 0, .int .u8 0, .int .u8 0, .int .u8 0, .int .u8 0, .int .u8 0, .int .u8 0, .int .u8 0, .int .u8 0] 86)).drew).setRow w.heap.size #[.int .u8 0, .int .u8 0, .int .u8 0, .int .u8 0, .int .u8 0, .int .u8 0, .int .u8 0, .int .u8 0, .int .u8 0, .int .u8 0, .int .u8 0, .int .u8 0, .int .u8 0, .int .u8 0, .int .u8 0, .int .u8 0, .int .u8 0, .int .u8 0, .int .u8 0, .int .u8 0, .int .u8 0, .int .u8 0, .int .u8 0, .int .u8 0, .int .u8 0, .int .u8 0, .int .u8 0, .int .u8 0, .int .u8 0, .int .u8 0, .int .u8 0, .int .u8 0] = ws at *
    refine wpAny_ready (rs := [1]) (by kernel_rfl) (by simp) ?_
    refine AllReady.cons rfl (fun K hK => ?_) AllReady.nil
    go_simp
    refine hK _ _ ?_
    clear hK K
    refine wpAny_ready (rs := [3]) (by kernel_rfl) (by simp) ?_
    refine AllReady.cons rfl (fun K hK => ?_) AllReady.nil
    go_simp
    refine hK _ _ ?_
    clear hK K
    refine wpAny_done (by kernel_rfl) ?_ _
    simp only [Exit.then]
    go_wp2_with fail
    exact ret_hash rfl w.heap.size #[.int .u8 0, .int .u8 0, .int .u8 0, .int .u8 0, .int .u8 0, .int .u8 0, .int .u8 0, .int .u8 0, .int .u8 0, .int .u8 0, .int .u8 0, .int .u8 0, .int .u8 0, .int .u8 0, .int .u8 0, .int .u8 0, .int .u8 0, .int .u8 0, .int .u8 0, .int .u8 0, .int .u8 0, .int .u8 0, .int .u8 0, .int .u8 0, .int .u8 0, .int .u8 0, .int .u8 0, .int .u8 0, .int .u8 0, .int .u8 0, .int .u8 0, .int .u8 0] rfl (.iface 381 (.pointer (some (S 2)))) RZ.out rfl rfl rfl ⟨rfl, BZ.out⟩
/-! ### names -/
def badS : Nat → List UInt8
  | 0 => [116, 105, 108, 101, 47, 48, 47, 49]
  | 1 => [116, 105, 108, 101, 47, 48, 47, 48, 48, 48, 49]
  | 2 => [116, 105, 108, 101, 47, 48, 47, 120, 48, 48, 48, 47, 48, 48, 49]
  | 3 => [116, 105, 108, 101, 47, 48, 47, 48, 48, 49, 46, 112, 47, 50, 53, 54]
  | 4 => [116, 105, 108, 101, 47, 48, 47, 48, 48, 49, 46, 112, 47, 48, 52, 52]
  | 5 => [116, 105, 108, 101, 47, 56, 47, 48, 48, 48]
  | 6 => [116, 105, 108, 101, 47, 48, 47, 48, 48, 49, 47]
  | _ => []
def badRow : Array Value := #[.string ⟨#[116, 105, 108, 101, 47, 48, 47, 49]⟩, .string ⟨#[116, 105, 108, 101, 47, 48, 47, 48, 48, 48, 49]⟩, .string ⟨#[116, 105, 108, 101, 47, 48, 47, 120, 48, 48, 48, 47, 48, 48, 49]⟩, .string ⟨#[116, 105, 108, 101, 47, 48, 47, 48, 48, 49, 46, 112, 47, 50, 53, 54]⟩, .string ⟨#[116, 105, 108, 101, 47, 48, 47, 48, 48, 49, 46, 112, 47, 48, 52, 52]⟩, .string ⟨#[116, 105, 108, 101, 47, 56, 47, 48, 48, 48]⟩, .string ⟨#[116, 105, 108, 101, 47, 48, 47, 48, 48, 49, 47]⟩, .string ⟨#[]⟩]
theorem badRow_get (k : Nat) (hk : k < 8) : badRow[k]? = some (.string ⟨(badS k).toArray⟩) := by
  rcases show k = 0 ∨ k = 1 ∨ k = 2 ∨ k = 3 ∨ k = 4 ∨ k = 5 ∨ k = 6 ∨ k = 7 by omega with rfl | rfl | rfl | rfl | rfl | rfl | rfl | rfl <;> rfl
theorem n01 : nameT 0 1 256 = [116, 105, 108, 101, 47, 48, 47, 48, 48, 49] := by
  rw [nameT, dec0, dec1, partL, if_neg (by decide)]
  rfl
theorem n44 : nameT 0 1 44 = [116, 105, 108, 101, 47, 48, 47, 48, 48, 49, 46, 112, 47, 52, 52] := by
  rw [nameT, dec0, dec1, partL, if_pos (by decide), dec44]
  rfl
theorem bad_of {l : List UInt8} {L I W : Nat} (hL : refL l = L) (hI : refI l = I) (hW : refW l = W) (h : ¬ (MayT L I W ∧ nameT L I W = l)) : parseT l = none := by
  rw [parse_ref, hL, hI, hW]
  exact if_neg fun h2 => h h2.2
theorem bad_none (k : Nat) (hk : k < 8) : parseT (badS k) = none := by
  rcases show k = 0 ∨ k = 1 ∨ k = 2 ∨ k = 3 ∨ k = 4 ∨ k = 5 ∨ k = 6 ∨ k = 7 by omega with rfl | rfl | rfl | rfl | rfl | rfl | rfl | rfl
  · exact bad_of (L := 0) (I := 1) (W := 256) (by decide +kernel) (by decide +kernel) (by decide +kernel) fun h => absurd (n01.symm.trans h.2) (by decide)
  · exact bad_of (L := 0) (I := 1) (W := 256) (by decide +kernel) (by decide +kernel) (by decide +kernel) fun h => absurd (n01.symm.trans h.2) (by decide)
  · exact bad_of (L := 0) (I := 1) (W := 256) (by decide +kernel) (by decide +kernel) (by decide +kernel) fun h => absurd (n01.symm.trans h.2) (by decide)
  · exact bad_of (L := 0) (I := 1) (W := 256) (by decide +kernel) (by decide +kernel) (by decide +kernel) fun h => absurd (n01.symm.trans h.2) (by decide)
  · exact bad_of (L := 0) (I := 1) (W := 44) (by decide +kernel) (by decide +kernel) (by decide +kernel) fun h => absurd (n44.symm.trans h.2) (by decide)
  · exact bad_of (L := 8) (I := 0) (W := 256) (by decide +kernel) (by decide +kernel) (by decide +kernel) fun h => absurd h.1.1 (by decide)
  · exact bad_of (L := 0) (I := 1) (W := 256) (by decide +kernel) (by decide +kernel) (by decide +kernel) fun h => absurd (n01.symm.trans h.2) (by decide)
  · rw [parse_ref]
    exact if_neg fun h => absurd h.1 (by decide)
theorem bad_parse (S : Nat → Addr) (k : Nat) (hk : k < 8) : parseV S (badS k) = .tuple #[.agg #[.int .u8 0, .int .u64 0, .int .i64 0], errV S 3] := by
  unfold parseV
  rw [bad_none k hk]
  rfl
theorem dec1000 : Lib.decDigits 1000 = [49, 48, 48, 48] := by
  rw [decDigits_snoc (by omega), decDigits_snoc (by omega), decDigits_snoc (by omega), Lib.decDigits_one (by omega)]
  rfl
theorem path_no (S : Nat → Addr) (L I : Nat) (W : Int) (h : ¬ MayT L I W) : pathV S L I W = .tuple #[.string ⟨#[]⟩, errV S 2] := by
  unfold pathV
  rw [if_neg h]
theorem path_1000 (S : Nat → Addr) : pathV S 1 1000 1 = .tuple #[.string ⟨#[116, 105, 108, 101, 47, 49, 47, 120, 48, 48, 49, 47, 48, 48, 48, 46, 112, 47, 49]⟩, .nilIface] := by
  unfold pathV
  rw [if_pos (by decide), show (1 : Int).toNat = 1 from rfl, nameT, dec1, dec1000, partL, if_pos (by decide), dec1]
  rfl
theorem of_63 : ofV 63 0 = .tuple #[.agg #[.int .u8 7, .int .u64 0, .int .i64 128], .int .i64 0, .int .i64 128, .bool true] := by
  unfold ofV
  rw [if_pos (by decide)]
  rfl
theorem in_7 : inV 7 0 9223372036854775808 = .tuple #[.agg #[.int .u8 7, .int .u64 0, .int .i64 128], .bool true] := by
  unfold inV
  rw [if_pos (by decide)]
  rfl
theorem in_no (L I Z : Nat) (h : ¬ InP L I Z) : inV L I Z = .tuple #[.agg #[.int .u8 0, .int .u64 0, .int .i64 0], .bool false] := by
  unfold inV
  rw [if_neg h]
  rfl
set_option maxHeartbeats 8000000 in
set_option maxRecDepth 100000 in
theorem tileNames_walk (S : Nat → Addr) (w : World) (hB : Base S w) (hT : Tab w) :
    Calls Tryz.prog 10 #[] w fun e w' => e = .returned (.bool true) ∧ Below w.heap.size w w' := by
  have HPR := Lib.hid fun (k : Nat) (hk : k < 8) W hB hT => (parse_any S ⟨(badS k).toArray⟩ W (by
    rcases show k = 0 ∨ k = 1 ∨ k = 2 ∨ k = 3 ∨ k = 4 ∨ k = 5 ∨ k = 6 ∨ k = 7 by omega with rfl | rfl | rfl | rfl | rfl | rfl | rfl | rfl <;> decide) hB hT).mono (R' := fun e w' => e = .returned (.tuple #[.agg #[.int .u8 0, .int .u64 0, .int .i64 0], errV S 3]) ∧ Below W.heap.size W w') (fun e w' h => ⟨by rw [h.1, show (⟨(badS k).toArray⟩ : ByteArray).data.toList = badS k by simp, bad_parse S k hk], h.2⟩)
  have HP1 := Lib.hid fun W hB hT => (path_any S 7 0 129 (by omega) (by omega) W hB hT).mono (R' := fun e w' => e = .returned (.tuple #[.string ⟨#[]⟩, errV S 2]) ∧ Below W.heap.size W w') (fun e w' h => ⟨by rw [h.1, path_no S 7 0 129 (by decide)], h.2⟩)
  have HP2 := Lib.hid fun W hB hT => (path_any S 7 1 1 (by omega) (by omega) W hB hT).mono (R' := fun e w' => e = .returned (.tuple #[.string ⟨#[]⟩, errV S 2]) ∧ Below W.heap.size W w') (fun e w' h => ⟨by rw [h.1, path_no S 7 1 1 (by decide)], h.2⟩)
  have HP3 := Lib.hid fun W hB hT => (path_any S 0 0 257 (by omega) (by omega) W hB hT).mono (R' := fun e w' => e = .returned (.tuple #[.string ⟨#[]⟩, errV S 2]) ∧ Below W.heap.size W w') (fun e w' h => ⟨by rw [h.1, path_no S 0 0 257 (by decide)], h.2⟩)
  have HP4 := Lib.hid fun W hB hT => (path_any S 1 1000 1 (by omega) (by omega) W hB hT).mono (R' := fun e w' => e = .returned (.tuple #[.string ⟨#[116, 105, 108, 101, 47, 49, 47, 120, 48, 48, 49, 47, 48, 48, 48, 46, 112, 47, 49]⟩, .nilIface]) ∧ Below W.heap.size W w') (fun e w' h => ⟨by rw [h.1, path_1000], h.2⟩)
  have HOF := Lib.hid fun W => (of_any 63 0 (by omega) (by omega) W).mono (R' := fun e w' => e = .returned (.tuple #[.agg #[.int .u8 7, .int .u64 0, .int .i64 128], .int .i64 0, .int .i64 128, .bool true]) ∧ Below W.heap.size W w') (fun e w' h => ⟨by rw [h.1, of_63], h.2⟩)
  have HI1 := Lib.hid fun W => (in_any 7 0 9223372036854775808 (by omega) (by omega) (by omega) W).mono (R' := fun e w' => e = .returned (.tuple #[.agg #[.int .u8 7, .int .u64 0, .int .i64 128], .bool true]) ∧ Below W.heap.size W w') (fun e w' h => ⟨by rw [h.1, in_7], h.2⟩)
  have HI2 := Lib.hid fun W => (in_any 8 0 9223372036854775808 (by omega) (by omega) (by omega) W).mono (R' := fun e w' => e = .returned (.tuple #[.agg #[.int .u8 0, .int .u64 0, .int .i64 0], .bool false]) ∧ Below W.heap.size W w') (fun e w' h => ⟨by rw [h.1, in_no 8 0 9223372036854775808 (by decide)], h.2⟩)
  have HI3 := Lib.hid fun W => (in_any 0 0 9223372036854775809 (by omega) (by omega) (by omega) W).mono (R' := fun e w' => e = .returned (.tuple #[.agg #[.int .u8 0, .int .u64 0, .int .i64 0], .bool false]) ∧ Below W.heap.size W w') (fun e w' h => ⟨by rw [h.1, in_no 0 0 9223372036854775809 (by decide)], h.2⟩)
  have HI4 := Lib.hid fun W => (in_any 0 72057594037927936 300 (by omega) (by omega) (by omega) W).mono (R' := fun e w' => e = .returned (.tuple #[.agg #[.int .u8 0, .int .u64 0, .int .i64 0], .bool false]) ∧ Below W.heap.size W w') (fun e w' h => ⟨by rw [h.1, in_no 0 72057594037927936 300 (by decide)], h.2⟩)
  have HB := Lib.hid hB
  have HT := Lib.hid hT
  clear hB hT
  go_enter Tryz.func10, Tryz.ntmps10
  go_wp2_with fail
  have H0 := Lib.hid (show (w.alloc (.cells badRow 9)).heap[w.heap.size]? = some (.cells badRow 9) from heap_one w _)
  have B0 := Lib.hid (below_one w (.cells badRow 9))
  obtain ⟨zl, hz1, hmk⟩ : ∃ zl : List UInt8, zl.length = 63 ∧ ∀ W : World, (Instr.makeSlice 94 (.int .i64 63) (.int .i64 63)).run Tryz.prog W = .ok (.slice (some ⟨W.heap.size, 0, none⟩) 63 63) (W.alloc (.cells (Lib.byteCells zl).toArray 5)) := ⟨List.replicate 63 0, rfl, fun _ => by kernel_rfl⟩
  obtain ⟨zc, hmk2⟩ : ∃ zc : Array Value, ∀ W : World, (Instr.makeSlice 40 (.int .i64 4) (.int .i64 4)).run Tryz.prog W = .ok (.slice (some ⟨W.heap.size, 0, none⟩) 4 4) (W.alloc (.cells zc 86)) := ⟨Array.replicate 128 (.int .u8 0), fun _ => by kernel_rfl⟩
  have HZ1 := Lib.hid hz1
  have HZS := Lib.hid (show (⟨zl.toArray⟩ : ByteArray).size = 63 from (List.size_toArray).trans hz1)
  clear hz1
  change Code.wp _ _ _ _ (w.alloc (.cells badRow 9))
  generalize w.alloc (.cells badRow 9) = w0 at *
  go_loopw [2] (fun vi wr => ∃ k : Nat, k ≤ 8 ∧ vi = .int .i64 (k : Int) ∧ Below w0.heap.size w0 wr) (fun vi _ => 8 - (intOf vi).toNat)
  case atStart => exact ⟨0, by omega, rfl, Below.refl _ _⟩
  case round =>
    obtain ⟨k, hk, rfl, hbel⟩ := hrel
    rename World => wA
    by_cases hk8 : k < 8
    · have k1 : (k : Int) < 8 := by omega
      have k0 : (0 : Int) ≤ (k : Int) := by omega
      have hrow := below_heap hbel H0.out
      have ck := cell_of hrow k (badRow_get k hk8)
      have lk := lt_of_heap hrow
      have HP := Lib.hid (HPR.out k hk8)
      have HBE := Lib.hid hbel
      have BA := Lib.hid (below_trans B0.out hbel)
      clear hrow hbel
      generalize (⟨(badS k).toArray⟩ : ByteArray) = bs at *
      go_wp2_with fail
      refine (HP.out _ (HB.out.below BA.out) (tab_below HT.out BA.out)).mono ?_
      rintro e w1 ⟨rfl, b1⟩
      have BB := Lib.hid (below_trans BA.out b1)
      have BW := Lib.hid (below_trans HBE.out b1)
      clear b1 ck lk
      simp only [errV]
      go_wp2_with fail
      have bt := BB.out.alloc BB.out.size (.cells #[.int .u8 0, .int .u64 0, .int .i64 0] 24)
      have HIS := Lib.hid (is_any S _ (errV S 3) 3 none 3 (HB.out.below bt) (.inr (.inl ⟨by omega, by omega, rfl, rfl⟩)))
      have RT := Lib.hid (heap_one w1 (.cells #[.int .u8 0, .int .u64 0, .int .i64 0] 24))
      have BW2 := Lib.hid (BW.out.alloc BW.out.size (.cells #[.int .u8 0, .int .u64 0, .int .i64 0] 24))
      have his : isB 3 none 3 = true := by decide
      clear bt
      simp only [errV] at HIS
      refine HIS.out.mono ?_
      rintro e w2 ⟨rfl, b2⟩
      rw [his]
      have r2 := below_heap b2 RT.out
      obtain ⟨q0, q1, q2⟩ := cells3 r2
      have l2 := lt_of_heap r2
      have BW3 := Lib.hid (below_trans BW2.out b2)
      clear b2 r2 his
      go_wp2_with fail
      go_roundw
      case rel => exact ⟨k + 1, by omega, by go_num, BW3.out⟩
      case measure => simp [intOf]; omega
    · obtain rfl : k = 8 := by omega
      have BA := Lib.hid (below_trans B0.out hbel)
      have k1 : ¬ ((8 : Nat) : Int) < 8 := by decide
      clear hbel B0 H0 HPR
      go_wp2_with fail
      refine (HP1.out _ (HB.out.below BA.out) (tab_below HT.out BA.out)).mono ?_
      rintro e w1 ⟨rfl, b1⟩
      have B1 := Lib.hid (below_trans BA.out b1)
      clear b1
      simp only [errV]
      go_wp2_with fail
      refine (HP2.out _ (HB.out.below B1.out) (tab_below HT.out B1.out)).mono ?_
      rintro e w2 ⟨rfl, b2⟩
      have B2 := Lib.hid (below_trans B1.out b2)
      clear b2
      simp only [errV]
      go_wp2_with fail
      refine (HP3.out _ (HB.out.below B2.out) (tab_below HT.out B2.out)).mono ?_
      rintro e w3 ⟨rfl, b3⟩
      have B3 := Lib.hid (below_trans B2.out b3)
      clear b3
      simp only [errV]
      go_wp2_with fail
      refine (HP4.out _ (HB.out.below B3.out) (tab_below HT.out B3.out)).mono ?_
      rintro e w4 ⟨rfl, b4⟩
      have B4 := Lib.hid (below_trans B3.out b4)
      clear b4
      have hcv : (convert 94 9 (.slice (some ⟨w4.heap.size, 0, none⟩) 63 63)).run Tryz.prog (w4.alloc (.cells (Lib.byteCells zl).toArray 5)) = .ok (.string ⟨zl.toArray⟩) (w4.alloc (.cells (Lib.byteCells zl).toArray 5)) := by
        have h := run_convert_bytes_back (P := Tryz.prog) (w4.alloc (.cells (Lib.byteCells zl).toArray 5)) 94 9 5 ⟨w4.heap.size, 0, none⟩ 63 zl Tryz.underlying94 Tryz.underlying5 Tryz.underlying9 (fun i hi => by
          rw [Addr.add_mid, Nat.zero_add]
          exact cell_of (heap_one w4 _) i (by rw [List.getElem?_toArray]; unfold Lib.byteCells; rw [List.getElem?_map, List.getElem?_eq_getElem hi]; rfl))
        rw [HZ1.out] at h
        exact h
      dsimp only
      go_wp2_with fail
      have HD1 := Lib.hid (decode_size S ⟨zl.toArray⟩ 2 (w4.alloc (.cells (Lib.byteCells zl).toArray 5)) (HB.out.below (B4.out.alloc B4.out.size _)) (by omega) (by omega) (by rw [HZS.out]; decide))
      clear hcv
      refine HD1.out.mono ?_
      rintro e w5 ⟨rfl, b5⟩
      have B5 := Lib.hid (below_trans (B4.out.alloc B4.out.size (.cells (Lib.byteCells zl).toArray 5)) b5)
      clear b5 HD1
      simp only [errV]
      go_wp2_with fail
      refine (decode_width S ⟨#[]⟩ 0 _ (HB.out.below B5.out) (.inl (by omega))).mono ?_
      rintro e w6 ⟨rfl, b6⟩
      have B6 := Lib.hid (below_trans B5.out b6)
      clear b6
      simp only [errV]
      go_wp2_with fail
      refine (HOF.out _).mono ?_
      rintro e w7 ⟨rfl, b7⟩
      have B7 := Lib.hid ((below_trans B6.out b7).alloc (below_trans B6.out b7).size (.cells #[.int .u8 7, .int .u64 0, .int .i64 128] 24))
      have R7 := Lib.hid (heap_one w7 (.cells #[.int .u8 7, .int .u64 0, .int .i64 128] 24))
      clear b7
      dsimp only
      go_wp2_with fail
      refine (HI1.out _).mono ?_
      rintro e w8 ⟨rfl, b8⟩
      have B8 := Lib.hid ((below_trans B7.out b8).alloc (below_trans B7.out b8).size (.cells #[.int .u8 7, .int .u64 0, .int .i64 128] 24))
      have b8o := below_one w8 (.cells #[.int .u8 7, .int .u64 0, .int .i64 128] 24)
      have R78 := Lib.hid (below_heap b8o (below_heap b8 R7.out))
      have R8 := Lib.hid (heap_one w8 (.cells #[.int .u8 7, .int .u64 0, .int .i64 128] 24))
      clear b8 b8o R7
      dsimp only
      go_wp2_with fail
      refine (HI2.out _).mono ?_
      rintro e w9 ⟨rfl, b9⟩
      have B9 := Lib.hid ((below_trans B8.out b9).alloc (below_trans B8.out b9).size (.cells #[.int .u8 0, .int .u64 0, .int .i64 0] 24))
      have b9o := below_one w9 (.cells #[.int .u8 0, .int .u64 0, .int .i64 0] 24)
      have R79 := Lib.hid (below_heap b9o (below_heap b9 R78.out))
      have R89 := Lib.hid (below_heap b9o (below_heap b9 R8.out))
      clear b9 b9o R78 R8
      dsimp only
      go_wp2_with fail
      refine (HI3.out _).mono ?_
      rintro e w10 ⟨rfl, b10⟩
      have B10 := Lib.hid ((below_trans B9.out b10).alloc (below_trans B9.out b10).size (.cells #[.int .u8 0, .int .u64 0, .int .i64 0] 24))
      have b10o := below_one w10 (.cells #[.int .u8 0, .int .u64 0, .int .i64 0] 24)
      have R710 := Lib.hid (below_heap b10o (below_heap b10 R79.out))
      have R810 := Lib.hid (below_heap b10o (below_heap b10 R89.out))
      clear b10 b10o R79 R89
      dsimp only
      go_wp2_with fail
      refine (HI4.out _).mono ?_
      rintro e w11 ⟨rfl, b11⟩
      have B11 := Lib.hid ((below_trans B10.out b11).alloc (below_trans B10.out b11).size (.cells #[.int .u8 0, .int .u64 0, .int .i64 0] 24))
      have b11o := below_one w11 (.cells #[.int .u8 0, .int .u64 0, .int .i64 0] 24)
      have R711 := Lib.hid (below_heap b11o (below_heap b11 R710.out))
      have R811 := Lib.hid (below_heap b11o (below_heap b11 R810.out))
      clear b11 b11o R710 R810
      dsimp only
      go_wp2_with fail
      have ba := B11.out.alloc B11.out.size (.cells zc 86)
      have bo := below_one (w11.alloc (.cells #[.int .u8 0, .int .u64 0, .int .i64 0] 24)) (.cells zc 86)
      have R7a := Lib.hid (below_heap bo R711.out)
      have R8a := Lib.hid (below_heap bo R811.out)
      refine (hash_12 S _ _ (HB.out.below ba)).mono ?_
      rintro e w12 ⟨rfl, b12⟩
      have B12 := Lib.hid ((below_trans ba b12).alloc (below_trans ba b12).size (.cells #[.int .u8 0, .int .u8 0, .int .u8 0, .int .u8 0, .int .u8 0, .int .u8 0, .int .u8 0, .int .u8 0, .int .u8 0, .int .u8 0, .int .u8 0, .int .u8 0, .int .u8 0, .int .u8 0, .int .u8 0, .int .u8 0, .int .u8 0, .int .u8 0, .int .u8 0, .int .u8 0, .int .u8 0, .int .u8 0, .int .u8 0, .int .u8 0, .int .u8 0, .int .u8 0, .int .u8 0, .int .u8 0, .int .u8 0, .int .u8 0, .int .u8 0, .int .u8 0] 86))
      have b12o := below_one w12 (.cells #[.int .u8 0, .int .u8 0, .int .u8 0, .int .u8 0, .int .u8 0, .int .u8 0, .int .u8 0, .int .u8 0, .int .u8 0, .int .u8 0, .int .u8 0, .int .u8 0, .int .u8 0, .int .u8 0, .int .u8 0, .int .u8 0, .int .u8 0, .int .u8 0, .int .u8 0, .int .u8 0, .int .u8 0, .int .u8 0, .int .u8 0, .int .u8 0, .int .u8 0, .int .u8 0, .int .u8 0, .int .u8 0, .int .u8 0, .int .u8 0, .int .u8 0, .int .u8 0] 86)
      have R712 := Lib.hid (below_heap b12o (below_heap b12 R7a.out))
      have R812 := Lib.hid (below_heap b12o (below_heap b12 R8a.out))
      clear ba bo b12 b12o R7a R8a R711 R811
      simp only [errV]
      go_wp2_with (refine wpList_hash (by rfl) (.tmp 29) (.tmp 111) (by rfl) (by rfl) (by rfl) (by rfl) (by rfl) (by exact byteCells_one (List.replicate 32 0)) ?_)
      change Calls _ _ _ (w12.alloc (.cells #[.int .u8 0, .int .u8 0, .int .u8 0, .int .u8 0, .int .u8 0, .int .u8 0, .int .u8 0, .int .u8 0, .int .u8 0, .int .u8 0, .int .u8 0, .int .u8 0, .int .u8 0, .int .u8 0, .int .u8 0, .int .u8 0, .int .u8 0, .int .u8 0, .int .u8 0, .int .u8 0, .int .u8 0, .int .u8 0, .int .u8 0, .int .u8 0, .int .u8 0, .int .u8 0, .int .u8 0, .int .u8 0, .int .u8 0, .int .u8 0, .int .u8 0, .int .u8 0] 86)) _
      generalize w12.alloc (.cells #[.int .u8 0, .int .u8 0, .int .u8 0, .int .u8 0, .int .u8 0, .int .u8 0, .int .u8 0, .int .u8 0, .int .u8 0, .int .u8 0, .int .u8 0, .int .u8 0, .int .u8 0, .int .u8 0, .int .u8 0, .int .u8 0, .int .u8 0, .int .u8 0, .int .u8 0, .int .u8 0, .int .u8 0, .int .u8 0, .int .u8 0, .int .u8 0, .int .u8 0, .int .u8 0, .int .u8 0, .int .u8 0, .int .u8 0, .int .u8 0, .int .u8 0, .int .u8 0] 86) = wb at *
      have his2 : Value.bool (isB 2 none 2) = .bool true := by rw [show isB 2 none 2 = true by decide]
      have his3 : Value.bool (isB 3 none 3) = .bool true := by rw [show isB 3 none 3 = true by decide]
      have hpp : ((⟨#[116, 105, 108, 101, 47, 49, 47, 120, 48, 48, 49, 47, 48, 48, 48, 46, 112, 47, 49]⟩ : ByteArray).toList == (⟨#[116, 105, 108, 101, 47, 49, 47, 120, 48, 48, 49, 47, 48, 48, 48, 46, 112, 47, 49]⟩ : ByteArray).toList) = true := beq_self_eq_true _
      have HIS2 := Lib.hid fun W (hB : Base S W) => is_any S W (errV S 2) 2 none 2 hB (.inr (.inl ⟨by omega, by omega, rfl, rfl⟩))
      have HIS3 := Lib.hid fun W (hB : Base S W) => is_any S W (errV S 3) 3 none 3 hB (.inr (.inl ⟨by omega, by omega, rfl, rfl⟩))
      have HE2 := Lib.hid his2
      have HE3 := Lib.hid his3
      clear his2 his3
      simp only [errV] at HIS2 HIS3
      refine (HIS2.out _ (HB.out.below B12.out)).mono ?_
      rintro e w13 ⟨rfl, b13⟩
      rw [HE2.out]
      have B13 := Lib.hid (below_trans B12.out b13)
      have R713 := Lib.hid (below_heap b13 R712.out)
      have R813 := Lib.hid (below_heap b13 R812.out)
      clear b13 R712 R812
      go_wp2_with fail
      refine (HIS2.out _ (HB.out.below B13.out)).mono ?_
      rintro e w14 ⟨rfl, b14⟩
      rw [HE2.out]
      have B14 := Lib.hid (below_trans B13.out b14)
      have R714 := Lib.hid (below_heap b14 R713.out)
      have R814 := Lib.hid (below_heap b14 R813.out)
      clear b14 R713 R813
      go_wp2_with fail
      refine (HIS2.out _ (HB.out.below B14.out)).mono ?_
      rintro e w15 ⟨rfl, b15⟩
      rw [HE2.out]
      have B15 := Lib.hid (below_trans B14.out b15)
      have R715 := Lib.hid (below_heap b15 R714.out)
      have R815 := Lib.hid (below_heap b15 R814.out)
      clear b15 R714 R814
      go_wp2_with fail
      refine (HIS3.out _ (HB.out.below B15.out)).mono ?_
      rintro e w16 ⟨rfl, b16⟩
      rw [HE3.out]
      have B16 := Lib.hid (below_trans B15.out b16)
      have R716 := Lib.hid (below_heap b16 R715.out)
      have R816 := Lib.hid (below_heap b16 R815.out)
      clear b16 R715 R815
      go_wp2_with fail
      refine (HIS2.out _ (HB.out.below B16.out)).mono ?_
      rintro e w17 ⟨rfl, b17⟩
      rw [HE2.out]
      have B17 := Lib.hid (below_trans B16.out b17)
      have R717 := Lib.hid (below_heap b17 R716.out)
      have R817 := Lib.hid (below_heap b17 R816.out)
      clear b17 R716 R816
      go_wp2_with fail
      refine (livesT_any S _ (HB.out.below B17.out) (tab_below HT.out B17.out)).mono ?_
      rintro e w18 ⟨rfl, b18⟩
      have B18 := Lib.hid (below_trans B17.out b18)
      have r7 := below_heap b18 R717.out
      have r8 := below_heap b18 R817.out
      obtain ⟨x0, x1, x2⟩ := cells3 r7
      obtain ⟨y0, y1, y2⟩ := cells3 r8
      have lx := lt_of_heap r7
      have ly := lt_of_heap r8
      clear b18 r7 r8
      go_wp2_with fail
      refine (HIS2.out _ (HB.out.below B18.out)).mono ?_
      rintro e wz ⟨rfl, bz⟩
      rw [HE2.out]
      have BZ := Lib.hid (below_trans B18.out bz)
      clear bz
      go_wp2_with fail
      go_ret
      exact ⟨rfl, BZ.out⟩
theorem tileNames_card : Rows.TileNamesCardSaid := TileNamesFrame.card tileNames_walk
#print axioms tileNames_card
end Go.Proofs.YtopilalefilkjaaGreatDoor
