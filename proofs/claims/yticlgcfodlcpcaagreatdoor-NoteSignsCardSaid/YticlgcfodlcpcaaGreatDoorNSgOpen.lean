/- NoteKnows: the argument's cells; a note with one line,opened by two who are known by one name: in plain Lean. -/
import Derived.Test.YticlgcfodlcpcaaGreatDoorNAlive
import Derived.Test.YticlgcfodlcpcaaGreatDoorFrame
import Derived.Lib.SmallJoins
import Derived.OpenShut
import Derived.Carry
import Derived.DataShut
import Derived.Test.YticlgcfodlcpcaaGreatDoorNSgR
import Derived.Deep.Slices
import Derived.Deep.MidRow
namespace Go.Proofs.YticlgcfodlcpcaaGreatDoor
open Go.Lib (hid byteCells)
open Go.RowKit
theorem row_range {W:World} {g:Nat} {L:List Value} {T:TypeId} {fr:Nat × Nat} (h:W.heap[g]? = some (.cells L.toArray T fr)):W.rangeAt g 0 L:=fun j v hj=>by
 rw [Nat.zero_add]
 exact cell_of h j (by rw [List.getElem?_toArray]; exact hj)
end Go.Proofs.YticlgcfodlcpcaaGreatDoor
namespace Go.Proofs.YticlgcfodlcpcaaGreatDoor
open Go.Lib (hid byteCells)
open Go.RowKit Go.ChangeShapes Go.WideShapes Go.ChangeAt
theorem laidOutT:laidOutB Tryz.prog = true:=by kernel_rfl
section
variable {H:Type} {enc:TypeId × Value→H} {W:World} {sp:Nat→Bool} {held:Bool}
end
end Go.Proofs.YticlgcfodlcpcaaGreatDoor
namespace Go.Proofs.YticlgcfodlcpcaaGreatDoor
open Go.Lib (hid byteCells)
open Go.RowKit Go.ChangeShapes Go.WideShapes Go.ChangeAt
theorem hashCellsN:Tryz.prog.cellsOf 23 = 32:=by kernel_rfl
theorem u8CellsN:Tryz.prog.cellsOf 5 = 1:=by kernel_rfl
theorem intCellsN:Tryz.prog.cellsOf 3 = 1:=by kernel_rfl
theorem strCellsN:Tryz.prog.cellsOf 9 = 1:=by kernel_rfl
theorem boolCellsN:Tryz.prog.cellsOf 4 = 1:=by kernel_rfl
theorem hashDescN:∃ e,Tryz.prog.underlying 23 = some (.array 32 e)∧e = 5:=⟨_,Tryz.underlying23,rfl⟩
def unByteN:Value→UInt8
 | .int _ n=>UInt8.ofNat n.toNat
 | _=>0
theorem bytes_ofN (A:List Value) (h:∀ j,j < A.length→∃ n:Int,A[j]? = some (.int .u8 n)∧0 ≤ n∧n ≤ 255):A = byteCells (A.map unByteN):=by
 refine List.ext_getElem? fun j=>?_
 by_cases hj:j < A.length
 ·obtain ⟨n,e,h0,h1⟩:=h j hj
  have e2:(UInt8.ofNat n.toNat).toNat = n.toNat:=by
   rw [UInt8.toNat_ofNat']
   omega
  simp only [byteCells,List.getElem?_map,e,Option.map_some,unByteN,e2]
  congr 2
  omega
 ·rw [List.getElem?_eq_none (by omega),List.getElem?_eq_none (by simp [byteCells]; omega)]
theorem one_atN {α:Type} {l:List α} {j:Nat} {x:α} (h:(l.drop j).take 1 = [x]):l[j]? = some x:=by
 have h2:((l.drop j).take 1)[0]? = some x:=by rw [h]; rfl
 rw [List.getElem?_take] at h2
 simpa [List.getElem?_drop] using h2
section
variable {H:Type} {enc:TypeId × Value→H} {W:World} {sp:Nat→Bool} {held:Bool}
theorem open_hashN {fuel:Nat} {cs:List Value} {x:DataW H × List MemPlace} (h:DataW.trod enc Tryz.prog W 0 sp held fuel 23 cs = some x):∃ r:List UInt8,r.length = 32∧cs = byteCells r:=by
 obtain ⟨e,hu,rfl⟩:=hashDescN
 obtain ⟨xs,m,_,_,hlen,hl,hel⟩:=DataW.trod_array hu h
 have h32:cs.length = 32:=by rw [hlen]; exact hashCellsN
 refine ⟨cs.map unByteN,by rw [List.length_map,h32],bytes_ofN cs fun j hj=>?_⟩
 have h1:=hel j (by omega)
 obtain ⟨y,hy⟩:∃ y,xs[j]? = some y:=⟨_,List.getElem?_eq_getElem (by omega)⟩
 rw [u8CellsN,Nat.mul_one,hy] at h1
 obtain ⟨n,e1,_,hw⟩:=DataW.trod_int Tryz.underlying5 h1
 have:=(Lit.wf_int_iff .u8 n).1 hw
 exact ⟨n,one_atN e1,this.1,this.2⟩
theorem glueN {α:Type} (l:List α) (a b:Nat) (A:List α) (h:(l.drop a).take b = A):l.drop a = A ++ l.drop (a + b):=by
 have e:=(List.take_append_drop b (l.drop a)).symm
 rw [List.drop_drop,h] at e
 exact e
end
end Go.Proofs.YticlgcfodlcpcaaGreatDoor
namespace Go.Proofs.YticlgcfodlcpcaaGreatDoor
open Go.Lib (hid byteCells)
open Go.RowKit Go.ChangeShapes Go.WideShapes Go.ChangeAt Go.Deep
theorem weights_memS {H:Type} {P:Program} {e:TypeId} {p:Nat→Bool}:∀ (l:List (DataW H)) (d:DataW H),d ∈ l→(DataW.weightsAll P e l).all p = true→(d.weights P e).all p = true
 | [],_,h,_=>absurd h List.not_mem_nil
 | x :: r,d,h,hz=>by
  rw [DataW.weightsAll,List.all_append,Bool.and_eq_true] at hz
  rcases List.mem_cons.1 h with rfl | h
  ·exact hz.1
  ·exact weights_memS r d h hz.2
theorem opCells:Tryz.prog.cellsOf 46 = 4:=by kernel_rfl
theorem opBytes:Tryz.prog.bytesOf 46 = 48:=by kernel_rfl
theorem scCells:Tryz.prog.cellsOf 26 = 66:=by kernel_rfl
theorem opsCells:Tryz.prog.cellsOf 24 = 1:=by kernel_rfl
theorem opUnder:∃ f0 f1 f2 f3:Field,Tryz.prog.underlying 46 = some (.struct #[f0,f1,f2,f3])∧(f0.type = 9∧f0.offset = 0)∧(f1.type = 9∧f1.offset = 1)∧(f2.type = 4∧f2.offset = 2)∧(f3.type = 3∧f3.offset = 3):=
 ⟨_,_,_,_,Tryz.underlying46,⟨rfl,rfl⟩,⟨rfl,rfl⟩,⟨rfl,rfl⟩,⟨rfl,rfl⟩⟩
theorem scUnder:∃ f0 f1 f2 f3:Field,Tryz.prog.underlying 26 = some (.struct #[f0,f1,f2,f3])∧(f0.type = 23∧f0.offset = 0)∧(f1.type = 23∧f1.offset = 32)∧(f2.type = 3∧f2.offset = 64)∧(f3.type = 24∧f3.offset = 65):=
 ⟨_,_,_,_,Tryz.underlying26,⟨rfl,rfl⟩,⟨rfl,rfl⟩,⟨rfl,rfl⟩,⟨rfl,rfl⟩⟩
section
variable {H:Type} {enc:TypeId × Value→H} {W:World} {sp:Nat→Bool} {held:Bool}
theorem open_op {fuel:Nat} {cs:List Value} {x:DataW H × List MemPlace} (h:DataW.trod enc Tryz.prog W 0 sp held fuel 46 cs = some x) :
  ∃ (nt nm:ByteArray) (ag:Bool) (wh:Int),idxOk wh∧cs = opC (nt.data.toList,nm.data.toList,ag,wh)∧∃ d1 d2,x.1 = .agg [.lit (.string nt.data.toList),.lit (.string nm.data.toList),d1,d2]:=by
 obtain ⟨f0,f1,f2,f3,hu,⟨t0,o0⟩,⟨t1,o1⟩,⟨t2,o2⟩,⟨t3,o3⟩⟩:=opUnder
 obtain ⟨xs,n,_,hx,hl,hlen,hf⟩:=DataW.trod_struct hu h
 match xs,hlen with
 | [y0,y1,y2,y3],_=>
  have h0:=hf 0 f0 rfl
  have h1:=hf 1 f1 rfl
  have h2:=hf 2 f2 rfl
  have h3:=hf 3 f3 rfl
  rw [t0,o0,strCellsN] at h0
  rw [t1,o1,strCellsN] at h1
  rw [t2,o2,boolCellsN] at h2
  rw [t3,o3,intCellsN] at h3
  obtain ⟨nt,e0,x0,_⟩:=DataW.trod_string Tryz.underlying9 h0
  obtain ⟨nm,e1,x1,_⟩:=DataW.trod_string Tryz.underlying9 h1
  obtain ⟨b,e2,_⟩:=DataW.trod_bool Tryz.underlying4 h2
  obtain ⟨k,e3,_,hw⟩:=DataW.trod_int Tryz.underlying3 h3
  have hb:=(Lit.wf_int_iff .i64 k).1 hw
  rw [opCells] at hl
  refine ⟨nt,nm,b,k,⟨hb.1,hb.2⟩,?_,y2.1,y3.1,?_⟩
  ·have g0:=glueN cs 0 1 _ e0
   have g1:=glueN cs 1 1 _ e1
   have g2:=glueN cs 2 1 _ e2
   have g3:=glueN cs 3 1 _ e3
   rw [List.drop_zero] at g0
   rw [g0,show 0 + 1 = 1 from rfl,g1,show 1 + 1 = 2 from rfl,g2,show 2 + 1 = 3 from rfl,g3,List.drop_of_length_le (show cs.length ≤ 3 + 1 by omega)]
   rfl
  ·have x0':y0 = (.lit (.string nt.data.toList),[]):=x0
   have x1':y1 = (.lit (.string nm.data.toList),[]):=x1
   rw [hx,x0',x1']
   rfl
set_option maxRecDepth 100000 in
theorem open_ops {fuel:Nat} {cs:List Value} {x:DataW H × List MemPlace} (hf:DataW.trod enc Tryz.prog W 0 sp held fuel 24 cs = some x)
  (hz:(x.1.weights Tryz.prog 24).all (· ≤ reachBytes) = true):∃ v L,cs = [v]∧OpsIn W v L∧L.length ≤ 140737488351232:=by
 rcases open_slice Tryz.underlying24 hf with ⟨h0,_⟩ | ⟨a,len',cap',m,n,D,Pl,h0,hb,hl,hm,hmm,hx,hel⟩
 ·exact ⟨_,[],h0,⟨fun _ h=>absurd h List.not_mem_nil,none,0,rfl,fun h=>absurd rfl h⟩,by simp⟩
 ·have hlm:len' ≤ m:=by rw [hmm]; split <;> omega
  obtain ⟨x1,x2⟩:=x
  simp only [Prod.mk.injEq] at hx
  rw [show (x1,x2).1 = x1 from rfl,hx.1] at hz
  simp only [DataW.weights,Tryz.underlying24,List.all_cons,List.all_append,Bool.and_eq_true,List.length_map,List.length_range,opBytes] at hz
  obtain ⟨hz0,hz1,_⟩:=hz
  have hR':∀ i,i < len'→∃ r:Sop,opOk r∧W.cells? 0 (a.add (i * 4)) 4 = some (opC r):=fun i hi=>by
   obtain ⟨cs',h1,h2⟩:=hel i (by omega)
   rw [opCells] at h1
   obtain ⟨nt,nm,ag,wh,a1,rfl,d1,d2,e2⟩:=open_op h2
   have hw:=weights_memS _ (D i) (List.mem_map_of_mem (List.mem_range.2 hi)) hz1
   have e3:D i = .agg [.lit (.string nt.data.toList),.lit (.string nm.data.toList),d1,d2]:=e2
   rw [e3] at hw
   obtain ⟨g0,g1,g2,g3,hu,⟨u0,_⟩,⟨u1,_⟩,_⟩:=opUnder
   simp only [DataW.weights,hu,DataW.weightsEach,List.map_cons,u0,u1,List.cons_append,List.nil_append,List.all_cons,Bool.and_eq_true,reachBytes] at hw
   exact ⟨(nt.data.toList,nm.data.toList,ag,wh),⟨of_decide_eq_true hw.1,of_decide_eq_true hw.2.1,a1⟩,h1⟩
  obtain ⟨R,hR⟩:=choose_lt hR'
  refine ⟨_,(List.range len').map R,h0,⟨fun x hx=>?_,some a,cap',by rw [List.length_map,List.length_range],fun hne=>?_⟩,?_⟩
  ·obtain ⟨i,hi,rfl⟩:=List.mem_map.1 hx
   exact (hR i (List.mem_range.1 hi)).1
  ·have hpos:0 < len':=by
    rcases Nat.eq_zero_or_pos len' with h0 | h0
    ·exact absurd (by rw [h0]; rfl) hne
    ·exact h0
   have hcell:∀ i j,i < len'→j < 4→W.cell? ((a.add (i * 4)).add j) = (opC (R i))[j]?:=fun i j hi hj=>(World.cells?_some (hR i hi).2).2.2 j hj
   have h00:∃ u,W.cell? ((a.add (0 * 4)).add 0) = some u:=by
    rw [hcell 0 0 hpos (by omega)]
    exact ⟨_,rfl⟩
   obtain ⟨u,hu⟩:=h00
   have ha0:a.add (0 * 4) = a:=by unfold Addr.add; simp
   rw [ha0] at hu
   have hs:a.spot = none:=by
    obtain ⟨b,o,spot⟩:=a
    cases spot with
    | none=>rfl
    | some k=>
     simp only [Addr.add,if_pos,World.cell?] at hu
     split at hu
     ·simp at hu
     ·cases hu
   obtain ⟨g,o,s⟩:=a
   obtain rfl:s = none:=hs
   refine ⟨g,o,rfl,fun i x hx j v hj=>?_⟩
   rw [List.getElem?_map] at hx
   obtain ⟨i',hi',rfl⟩:=Option.map_eq_some_iff.1 hx
   have hil:i < len':=by have:=(List.getElem?_eq_some_iff.1 hi').1; rwa [List.length_range] at this
   obtain rfl:i = i':=by rw [List.getElem?_range hil] at hi'; exact Option.some.inj hi'
   have hj4:j < 4:=(List.getElem?_eq_some_iff.1 hj).1
   have hc:=hcell i j hil hj4
   rw [Addr.add_mid,Addr.add_mid] at hc
   rw [hc]
   exact hj
  ·rw [List.length_map,List.length_range]
   have:=of_decide_eq_true hz0
   unfold reachBytes at this
   omega
set_option maxRecDepth 100000 in
theorem open_script {b0:Nat} {v:Value} {d:DataW H} {p:List MemPlace} (hv:Value.okWide Tryz.prog W .any b0 26 v) (h:DataW.Trod enc Tryz.prog W 0 sp held 26 v d p)
  (hz:(d.weights Tryz.prog 26).all (· ≤ reachBytes) = true) :
  ∃ (one two:List UInt8) (height:Int) (ov:Value) (OL:List Sop),v = .agg (scC one two height ov).toArray∧one.length = 32∧two.length = 32∧idxOk height∧OL.length ≤ 140737488351232∧OpsIn W ov OL:=by
 obtain ⟨f0,f1,f2,f3,hu,⟨t0,o0⟩,⟨t1,o1⟩,⟨t2,o2⟩,⟨t3,o3⟩⟩:=scUnder
 obtain ⟨cs,rfl,hsz⟩:=okWide_struct hu hv
 rw [scCells] at hsz
 obtain ⟨fuel,hf⟩:=h
 obtain ⟨xs,n,_,hx,hl,hlen,hf⟩:=DataW.trod_struct hu hf
 match xs,hlen with
 | [y0,y1,y2,y3],_=>
  have h0:=hf 0 f0 rfl
  have h1:=hf 1 f1 rfl
  have h2:=hf 2 f2 rfl
  have h3:=hf 3 f3 rfl
  rw [t0,o0,hashCellsN] at h0
  rw [t1,o1,hashCellsN] at h1
  rw [t2,o2,intCellsN] at h2
  rw [t3,o3,opsCells] at h3
  obtain ⟨one,ho,e0⟩:=open_hashN h0
  obtain ⟨two,ht,e1⟩:=open_hashN h1
  obtain ⟨k,e2,_,hw⟩:=DataW.trod_int Tryz.underlying3 h2
  have hb:=(Lit.wf_int_iff .i64 k).1 hw
  have hx1:=(Prod.mk.injEq ..).mp hx
  rw [hx1.1] at hz
  simp only [DataW.weights,hu,DataW.weightsEach,List.map_cons,List.map_nil,t0,t1,t2,t3,List.all_append,Bool.and_eq_true] at hz
  obtain ⟨ov,OL,e3,hop,hlo⟩:=open_ops h3 hz.2.2.2.1
  refine ⟨one,two,k,ov,OL,?_,ho,ht,⟨hb.1,hb.2⟩,hlo,hop⟩
  have hl':cs.toList.length = 66:=by rw [Array.length_toList,hsz]
  have g0:=glueN cs.toList 0 32 _ e0
  have g1:=glueN cs.toList 32 32 _ e1
  have g2:=glueN cs.toList 64 1 _ e2
  have g3:=glueN cs.toList 65 1 _ e3
  rw [List.drop_zero] at g0
  congr 1
  refine Array.toList_inj.1 ?_
  rw [g0,show 0 + 32 = 32 from rfl,g1,show 32 + 32 = 64 from rfl,g2,show 64 + 1 = 65 from rfl,g3,List.drop_of_length_le (show cs.toList.length ≤ 65 + 1 by omega)]
  unfold scC
  simp
end
end Go.Proofs.YticlgcfodlcpcaaGreatDoor
