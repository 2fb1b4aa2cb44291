/-
  The return of a hash and an error.
-/
import Derived.Test.YtlahdjdbbfjadaaGreatDoorTileLives
import Derived.Test.YtlahdjdbbfjadaaGreatDoorHashD
import Derived.Deep.CutRange
import Derived.Deep.DeepCutAuto
import Derived.StillTailTactics
import Derived.Outline
namespace Go.Proofs.YtlahdjdbbfjadaaGreatDoor
open Go.RowKit

theorem ret_hash {fn : Func} {u p : Tmp} (hf : fn.results = #[.cell p 70, .tmp u]) {Q : Ending → World → Prop} {a : Act} {w : World} (g : Nat) (cs : Array Value) (hcs : cs.size = 32) (v : Value)
    (hg : w.heap[g]? = some (.cells cs 70 (0, 0))) (hd : a.defers = []) (hp : a.tmps.getD p undef = .pointer (some ⟨g, 0, none⟩)) (hv : a.tmps.getD u undef = v) (hQ : Q (.returned (.tuple #[.agg cs, v])) w) : bodyPost Tryz.prog fn Q .ret a w := by
  refine bodyPost_ret (v := .tuple #[.agg cs, v]) ?_ hd hQ
  rw [← hv]
  exact results_row1 hf _ _ g 70 _ (0, 0) _ hp hg Tryz.underlying70 rfl (by rw [hcs]; exact hashInfo)
end Go.Proofs.YtlahdjdbbfjadaaGreatDoor
