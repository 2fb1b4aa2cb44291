/- text.control,blank,Name and Plain by contracts. text.Name and text.Plain by contracts: every rune of the text is whole and good. -/
import Derived.Test.YticlgcfodlcpcaaGreatDoorLines
import Derived.Lib.ValidU
import Derived.Lib.TrimUEq
import Derived.Lib.OthersKept
import Derived.Lib.FieldsU
namespace Go.Proofs.YticlgcfodlcpcaaGreatDoor
open Go.Lib (hid byteCells)
open Go.RowKit
def controlB (r:Int):Bool:=decide (r < 32) || (decide (127 ≤ r) && decide (r ≤ 159))
def blankLo:List Int:=[32,133,160,5760,8192,8232,8239,8287,12288]
def blankHi:List Int:=[32,133,160,5760,8202,8233,8239,8287,12288]
def blankB (r:Int):Bool:=(blankLo.zip blankHi).any fun p=>decide (p.1 ≤ r) && decide (r ≤ p.2)
theorem control_any (r:Int) (w:World):Calls Tryz.prog 47 #[.int .i32 r] w fun e w'=>e = .returned (.bool (controlB r))∧w = w':=by
 by_cases h1:r < 32
 ·go_enter Tryz.func47,Tryz.ntmps47
  go_wp2
  go_ret
  exact ⟨ret_bool (by simp [controlB,h1]),rfl⟩
 ·by_cases h2:127 ≤ r
  ·by_cases h3:r ≤ 159
   ·go_enter Tryz.func47,Tryz.ntmps47
    go_wp2
    go_ret
    exact ⟨ret_bool (by simp [controlB,h2,h3]),rfl⟩
   ·go_enter Tryz.func47,Tryz.ntmps47
    go_wp2
    go_ret
    exact ⟨ret_bool (by simp [controlB,h1,h2,h3]),rfl⟩
  ·go_enter Tryz.func47,Tryz.ntmps47
   go_wp2
   go_ret
   exact ⟨ret_bool (by simp [controlB,h1]; omega),rfl⟩
theorem blank_at (k:Nat) (h:k < 9):∀ w,(Instr.index 167 (.agg blankCells) (.int .i64 (k:Int))).run Tryz.prog w = .ok (.agg #[.int .i32 (blankLo.getD k 0),.int .i32 (blankHi.getD k 0)]) w:=by
 rcases (show k = 0 ∨ k = 1 ∨ k = 2 ∨ k = 3 ∨ k = 4 ∨ k = 5 ∨ k = 6 ∨ k = 7 ∨ k = 8 by omega) with rfl | rfl | rfl | rfl | rfl | rfl | rfl | rfl | rfl <;> (intro _; kernel_rfl)
theorem blank_drop (k:Nat) (h:k < 9):(blankLo.zip blankHi).drop k = (blankLo.getD k 0,blankHi.getD k 0) :: (blankLo.zip blankHi).drop (k + 1):=by
 rcases (show k = 0 ∨ k = 1 ∨ k = 2 ∨ k = 3 ∨ k = 4 ∨ k = 5 ∨ k = 6 ∨ k = 7 ∨ k = 8 by omega) with rfl | rfl | rfl | rfl | rfl | rfl | rfl | rfl | rfl <;> rfl
set_option maxHeartbeats 1000000 in
set_option maxRecDepth 100000 in
theorem blank_any (S:Nat→Addr) (r:Int) (w:World) (hB:Base S w):Calls Tryz.prog 48 #[.int .i32 r] w fun e w'=>e = .returned (.bool (blankB r))∧Below w.heap.size w w':=by
 obtain ⟨tt,fr,hg1⟩:=hB.bl
 clear hB
 go_enter Tryz.func48,Tryz.ntmps48
 go_wp2_with (refine wpList_load_row rfl 167 _ rfl 18 rfl tt _ fr _ hg1 Tryz.underlying167 rfl (by kernel_rfl) ?_)
 clear hg1
 go_loopw [6] (fun i wr=>∃ k:Nat,k ≤ 9∧i = .int .i64 k∧Below w.heap.size w wr∧blankB r = ((blankLo.zip blankHi).drop k).any fun p=>decide (p.1 ≤ r) && decide (r ≤ p.2)) (fun i _=>9 - (intOf i).toNat)
 case atStart=>exact ⟨0,by omega,rfl,Below.refl _ _,rfl⟩
 case round=>
  obtain ⟨k,hk,rfl,hbel,hbl⟩:=hrel
  have HA:=hid hbl
  clear hbl
  have hsz:=hbel.size
  by_cases hlt:k < 9
  ·have hx:=blank_at k hlt
   have HD:=hid (blank_drop k hlt)
   generalize blankLo.getD k 0 = lo at *
   generalize blankHi.getD k 0 = hi at *
   by_cases h1:lo ≤ r
   ·by_cases h2:r ≤ hi
    ·go_wp2_with fail
     go_ret
     exact ⟨ret_bool (by rw [HA.out,HD.out]; simp [h1,h2]),hbel.alloc hsz _⟩
    ·go_wp2_with fail
     go_roundw
     case rel=>exact ⟨k + 1,by omega,by go_num,hbel.alloc hsz _,by rw [HA.out,HD.out]; simp [h2]⟩
     case measure=>simp [intOf]; omega
   ·go_wp2_with fail
    go_roundw
    case rel=>exact ⟨k + 1,by omega,by go_num,hbel.alloc hsz _,by rw [HA.out,HD.out]; simp [h1]⟩
    case measure=>simp [intOf]; omega
  ·have hf:blankB r = false:=by rw [HA.out,show k = 9 by omega]; rfl
   have HF:=hid hf
   clear hf
   go_wp2_with fail
   go_ret
   exact ⟨ret_bool (by rw [HF.out]),hbel⟩
def goodD (bad:Int→Bool):Nat→List UInt8→Bool
 | 0,_=>true
 | n + 1,l=>if l = [] then true else if (Lib.decodeL l).1 = 65533∧(Lib.decodeL l).2 = 1 then false else if bad (Lib.decodeL l).1 = true then false else goodD bad n (l.drop (Lib.decodeL l).2)
def badName (r:Int):Bool:=controlB r || blankB r || decide (r = 43)
def nameOf (l:List UInt8):Bool:=decide (1 ≤ l.length) && decide (l.length ≤ 64) && goodD badName l.length l
theorem goodD_invalid (bad:Int→Bool):∀ (n:Nat) (l:List UInt8),Lib.validGoD n l = false→goodD bad n l = false
 | 0,l,h=>by simp [Lib.validGoD] at h
 | n + 1,l,h=>by
  unfold Lib.validGoD at h
  unfold goodD
  split at h
  ·cases h
  ·rename_i hne
   rw [if_neg hne]
   split at h
   ·rename_i hv; rw [if_pos hv]
   ·rename_i hv
    rw [if_neg hv]
    split
    ·rfl
    ·exact goodD_invalid bad n _ h
theorem goodD_step (bad:Int→Bool) (n:Nat) (l:List UInt8) (hne:l ≠ []) (hv:Lib.validGoD (n + 1) l = true) :
  Lib.validGoD n (l.drop (Lib.decodeL l).2) = true∧goodD bad (n + 1) l = if bad (Lib.decodeL l).1 = true then false else goodD bad n (l.drop (Lib.decodeL l).2):=by
 unfold Lib.validGoD at hv
 rw [if_neg hne] at hv
 have hv2:¬ ((Lib.decodeL l).1 = 65533∧(Lib.decodeL l).2 = 1):=fun h=>by rw [if_pos h] at hv; cases hv
 rw [if_neg hv2] at hv
 refine ⟨hv,?_⟩
 conv=>lhs; unfold goodD
 rw [if_neg hne,if_neg hv2]
theorem goodD_end (bad:Int→Bool) (n:Nat):goodD bad n [] = true:=by
 cases n <;> simp [goodD]
def RuneRel (bad:Int→Bool) (s:ByteArray) (w:World) (K:Nat) (wr:World):Prop:=
 ∃ pos f:Nat,wr.heap[K]? = some (.stringIter s pos)∧s.size ≤ pos + f∧Lib.validGoD f (s.data.toList.drop pos) = true∧goodD bad s.size s.data.toList = goodD bad f (s.data.toList.drop pos)∧Below w.heap.size w wr
set_option maxHeartbeats 2000000 in
theorem name_any (S:Nat→Addr) (s:ByteArray) (w:World) (hs:s.size ≤ 9223372036854775807) (hB:Base S w) :
  Calls Tryz.prog 17 #[.string s] w fun e w'=>e = .returned (.bool (nameOf s.data.toList))∧Below w.heap.size w w':=by
 have hsz:=size_list s
 by_cases h1:s.size < 1
 ·have hr:nameOf s.data.toList = false:=by unfold nameOf; rw [hsz]; simp; omega
  rw [hr]
  clear hB hr hsz
  go_enter Tryz.func17,Tryz.ntmps17
  go_wp2_with fail
  go_ret
  exact ⟨rfl,Below.refl _ _⟩
 ·by_cases h2:64 < s.size
  ·have hr:nameOf s.data.toList = false:=by unfold nameOf; rw [hsz]; simp; omega
   rw [hr]
   clear hB hr hsz
   go_enter Tryz.func17,Tryz.ntmps17
   go_wp2_with fail
   go_ret
   exact ⟨rfl,Below.refl _ _⟩
  ·have hV:=Tryz.utf8_ValidString s w hs hB.tab
   have hr:nameOf s.data.toList = goodD badName s.size s.data.toList:=by unfold nameOf; rw [hsz]; simp; omega
   have HR:=hid hr
   have HB:=hid hB
   have HG:=hid (goodD_invalid badName s.size s.data.toList)
   have hvd:Lib.validD s.data.toList = Lib.validGoD s.size s.data.toList:=by unfold Lib.validD; rw [hsz]
   rw [hvd] at hV
   have HVC:=hid hV
   clear hV hvd hB hr hsz
   cases hvb:Lib.validGoD s.size s.data.toList with
   | false=>
    have HGF:=hid (HG.out hvb)
    rw [hvb] at HVC
    clear hvb HG
    go_enter Tryz.func17,Tryz.ntmps17
    go_wp2_with (go_at_call 46; refine HVC.out.mono ?_; rintro e w1 ⟨rfl,hb1⟩)
    go_ret
    exact ⟨ret_bool (by rw [HR.out,HGF.out]),hb1⟩
   | true=>
    rw [hvb] at HVC
    have HV:=hid hvb
    clear hvb HG
    go_enter Tryz.func17,Tryz.ntmps17
    go_wp2_with (go_at_call 46; refine HVC.out.mono ?_; rintro e w1 ⟨rfl,hb1⟩)
    have hk1:=hb1.size
    go_loopw [] (fun wr=>RuneRel badName s w w1.heap.size wr) (fun wr=>s.size - wr.iterPos w1.heap.size)
    case atStart=>exact ⟨0,s.size,World.iter_heap w1 s 0,by omega,HV.out,rfl,hb1.alloc hk1 _⟩
    case round=>
     obtain ⟨pos,f,hit,hfu,hv,hg,hbel⟩:=hrel
     have HGD:=hid hg
     have HVV:=hid hv
     clear hg hv
     have hlt:=lt_of_heap hit
     by_cases hp:pos < s.size
     ·have hnx:∀ ty,(Instr.next (.pointer (some ⟨w1.heap.size,0,none⟩)) true ty).run Tryz.prog wr = _:=fun ty=>Lib.run_next_any_at wr w1.heap.size s pos ty hit hp
      have hne:s.data.toList.drop pos ≠ []:=fun e=>by
       have:=congrArg List.length e
       rw [List.length_drop,size_list] at this; simp at this; omega
      obtain ⟨f',rfl⟩:∃ f',f = f' + 1:=⟨f - 1,by omega⟩
      have hst:=goodD_step badName f' _ hne HVV.out
      rw [Lib.decodeL_drop,List.drop_drop] at hst
      have hwd:=Lib.decodeL_width (s.data.toList.drop pos)
      rw [Lib.decodeL_drop] at hwd
      have hd1:=decode_le s pos
      have hit2:=Lib.iterAt_heap wr w1.heap.size s pos (pos + (Utf8.decode s pos).2) hit
      have hbw2:=Lib.below_iterAt hbel (k:=w1.heap.size) hk1 s (pos + (Utf8.decode s pos).2)
      have hsz2:w1.heap.size < (wr.iterAt w1.heap.size s (pos + (Utf8.decode s pos).2)).heap.size:=by rw [Lib.iterAt_size]; exact hlt
      have hms:wr.iterPos w1.heap.size = pos:=by simp only [World.iterPos,hit]
      generalize (Utf8.decode s pos).2 = wd at *
      generalize (Utf8.decode s pos).1 = R at *
      generalize hW2:wr.iterAt w1.heap.size s (pos + wd) = W2 at *
      have HST:=hid hst
      have HIT:=hid hit2
      have HMS:=hid hms
      have HB2:=hid (HB.out.below hbw2)
      clear hst hit2 hit hms hne hW2
      cases hc:controlB R with
      | true=>
       have hC:∀ W,Calls Tryz.prog 47 #[.int .i32 R] W fun e w'=>e = .returned (.bool true)∧W = w':=fun W=>by have:=control_any R W; rwa [hc] at this
       have HC:=hid hC
       have hf:goodD badName s.size s.data.toList = false:=by rw [HGD.out,HST.out.2,if_pos (by simp [badName,hc])]
       have HF:=hid hf
       clear hf hc hC
       go_wp2_with (go_at_call 47; refine (HC.out _).mono ?_; rintro e w2 ⟨rfl,rfl⟩)
       go_ret
       exact ⟨ret_bool (by rw [HR.out,HF.out]),hbw2⟩
      | false=>
       have hC:∀ W,Calls Tryz.prog 47 #[.int .i32 R] W fun e w'=>e = .returned (.bool false)∧W = w':=fun W=>by have:=control_any R W; rwa [hc] at this
       have HC:=hid hC
       cases hbk:blankB R with
       | true=>
        have hD:∀ W,Base S W→Calls Tryz.prog 48 #[.int .i32 R] W fun e w'=>e = .returned (.bool true)∧Below W.heap.size W w':=fun W h=>by have:=blank_any S R W h; rwa [hbk] at this
        have HD:=hid hD
        have hf:goodD badName s.size s.data.toList = false:=by rw [HGD.out,HST.out.2,if_pos (by simp [badName,hbk])]
        have HF:=hid hf
        clear hf hc hC hbk hD
        go_wp2_with (first | (go_at_call 47; refine (HC.out _).mono ?_; rintro e w2 ⟨rfl,rfl⟩) | (go_at_call 48; refine (HD.out _ HB2.out).mono ?_; rintro e w3 ⟨rfl,hb3⟩))
        go_ret
        exact ⟨ret_bool (by rw [HR.out,HF.out]),hbw2.trans (hb3.mono hbw2.size)⟩
       | false=>
        have hD:∀ W,Base S W→Calls Tryz.prog 48 #[.int .i32 R] W fun e w'=>e = .returned (.bool false)∧Below W.heap.size W w':=fun W h=>by have:=blank_any S R W h; rwa [hbk] at this
        have HD:=hid hD
        by_cases h43:R = 43
        ·have hf:goodD badName s.size s.data.toList = false:=by rw [HGD.out,HST.out.2,if_pos (by simp [badName,h43])]
         have HF:=hid hf
         subst h43
         clear hf hc hC hbk hD
         go_wp2_with (first | (go_at_call 47; refine (HC.out _).mono ?_; rintro e w2 ⟨rfl,rfl⟩) | (go_at_call 48; refine (HD.out _ HB2.out).mono ?_; rintro e w3 ⟨rfl,hb3⟩))
         go_ret
         exact ⟨ret_bool (by rw [HR.out,HF.out]),hbw2.trans (hb3.mono hbw2.size)⟩
        ·have hf:goodD badName s.size s.data.toList = goodD badName f' (s.data.toList.drop (pos + wd)):=by rw [HGD.out,HST.out.2,if_neg (by simp [badName,hbk,hc]; omega)]
         have HF:=hid hf
         have h43':((R:Int) == 43) = false:=by rw [beq_eq_false_iff_ne]; omega
         clear hf hc hC hbk hD h43
         go_wp2_with (first | (go_at_call 47; refine (HC.out _).mono ?_; rintro e w2 ⟨rfl,rfl⟩) | (go_at_call 48; refine (HD.out _ HB2.out).mono ?_; rintro e w3 ⟨rfl,hb3⟩))
         have hit3:=below_heap hb3 HIT.out
         go_roundw
         case rel=>exact ⟨pos + wd,f',hit3,by omega,HST.out.1,HF.out,hbw2.trans (hb3.mono hbw2.size)⟩
         case measure=>
          rw [HMS.out]
          simp only [World.iterPos,hit3]
          omega
     ·have hnx:∀ ty,(Instr.next (.pointer (some ⟨w1.heap.size,0,none⟩)) true ty).run Tryz.prog wr = _:=fun ty=>Lib.run_next_end_at wr w1.heap.size s pos ty hit hp
      clear hit
      go_wp2_with fail
      go_ret
      refine ⟨ret_bool ?_,hbel⟩
      rw [HR.out,HGD.out,List.drop_eq_nil_of_le (by rw [size_list]; omega),goodD_end]
end Go.Proofs.YticlgcfodlcpcaaGreatDoor
