/- Bytes that a call has gathered: appending to them,telling them as a text; the letters' numbers by strings.IndexByte. -/
import Derived.Test.YticlgcfodlcpcaaGreatDoorB64
import Derived.Laws.IdiomStrings
import Derived.Lib.BufferRead
import Derived.OwnWalk
namespace Go.Proofs.YticlgcfodlcpcaaGreatDoor
open Go.Lib (hid byteCells)
open Go.RowKit
theorem conv_own {B:Nat} {w:World} {v:Value} {l:List UInt8} (hown:w.ownsRow B 5 1 v l.length (byteCells l)) :
  (convert 117 9 v).run Tryz.prog w = .ok (.string ⟨l.toArray⟩) w:=by
 rcases hown.2 with ⟨rfl,h0⟩ | ⟨g,cap,cur,rfl,_⟩
 ·have:l = []:=by cases l with | nil=>rfl | cons _ _=>simp at h0
  subst this
  exact Lib.run_convert_nil_bytes w _ _ _ _ Tryz.underlying117 Tryz.underlying5 Tryz.underlying9
 ·have hc:=hown.cells (g:=g) rfl
  exact run_convert_bytes_back w _ _ _ ⟨g,0,none⟩ cap l Tryz.underlying117 Tryz.underlying5 Tryz.underlying9 (fun i hi=>hc i _ (by simp [byteCells,hi]))
def idx64 (c:UInt8):Int:=Lib.indexByte lettersL c
theorem idx64_any (c:UInt8) (w:World):Calls Tryz.prog 140 #[.string ⟨#[65,66,67,68,69,70,71,72,73,74,75,76,77,78,79,80,81,82,83,84,85,86,87,88,89,90,97,98,99,100,101,102,103,104,105,106,107,108,109,110,111,112,113,114,115,116,117,118,119,120,121,122,48,49,50,51,52,53,54,55,56,57,43,47]⟩,.int .u8 (c.toNat:Int)] w fun e w'=>e = .returned (.int .i64 (idx64 c))∧w = w':=by
 refine (Tryz.strings_IndexByte _ _ _).mono ?_
 rintro e w' ⟨rfl,rfl⟩
 refine ⟨?_,rfl⟩
 rw [show ((c.toNat:Int)).toNat.toUInt8 = c by simp]
 rfl
theorem indexByte_lt:∀ (l:List UInt8) (c:UInt8),Lib.indexByte l c < l.length
 | [],c=>by simp [Lib.indexByte]
 | b :: l,c=>by
  have:=indexByte_lt l c
  unfold Lib.indexByte
  rw [List.length_cons]
  split
  ·omega
  ·split <;> omega
theorem idx64_bd (c:UInt8):-1 ≤ idx64 c∧idx64 c < 64:=⟨Lib.indexByte_ge _ _,indexByte_lt lettersL c⟩
end Go.Proofs.YticlgcfodlcpcaaGreatDoor
