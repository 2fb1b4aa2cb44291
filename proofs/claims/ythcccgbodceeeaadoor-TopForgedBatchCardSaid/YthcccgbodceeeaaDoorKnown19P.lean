/-
  PLAIN: the two leaves "a" and "b" (chapter 0's example): the node of the two is not the node of them turned round.
-/
import Derived.Test.YthcccgbodceeeaaDoorShaP
namespace Go.Proofs.YthcccgbodceeeaaDoor

def leafA : List UInt8 := shaL [0, 97]
def leafB : List UInt8 := shaL [0, 98]
theorem known_ne : (shaL (1 :: (leafA ++ leafB)) == shaL (1 :: (leafB ++ leafA))) = false := by decide +kernel
end Go.Proofs.YthcccgbodceeeaaDoor
