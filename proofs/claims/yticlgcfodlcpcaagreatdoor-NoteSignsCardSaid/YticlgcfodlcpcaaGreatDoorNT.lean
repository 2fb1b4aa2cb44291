/- Rows of hashes,results out of cells,whole hashes loaded,stored and compared (picked out of elder texts by program). -/
import Derived.Test.YticlgcfodlcpcaaGreatDoorFW
import Derived.Test.YticlgcfodlcpcaaGreatDoorSha7
import Derived.Maps.AppendAt
import Derived.ArgAppend
import Derived.Deep.LoopGhost
import Derived.Deep.RegionHeld3
import Derived.Deep.AppendLies
import Derived.Laws.EntriesVeiled
import Derived.Deep.DeepCutAuto
namespace Go.Proofs.YticlgcfodlcpcaaGreatDoor
open Go.Lib (hid byteCells)
open Go.RowKit
theorem results_rows2 {P:Program} {fn:Func} {u p:Tmp} {ty ty2:TypeId} (h:fn.results = #[.cell p ty,.cell u ty2]) (tmps:Array Value) (w:World) (g g2:Nat) (t t2:TypeId) (cs cs2:Array Value) (fr fr2:Nat × Nat) (d d2:TypeDesc)
  (hp:tmps.getD p undef = .pointer (some ⟨g,0,none⟩)) (hg:w.heap[g]? = some (.cells cs t fr)) (hp2:tmps.getD u undef = .pointer (some ⟨g2,0,none⟩)) (hg2:w.heap[g2]? = some (.cells cs2 t2 fr2))
  (hu:P.underlying ty = some d) (hd:(match d with | .struct _ | .array _ _=>true | _=>false) = true) (hi:(P.info? ty).map (·.size) = some cs.size)
  (hu2:P.underlying ty2 = some d2) (hd2:(match d2 with | .struct _ | .array _ _=>true | _=>false) = true) (hi2:(P.info? ty2).map (·.size) = some cs2.size) :
  (results fn tmps).run P w = .ok (.tuple #[.agg cs,.agg cs2]) w:=by
 have hp':tmps[p]?.getD undef = .pointer (some ⟨g,0,none⟩):=by simpa using hp
 have hp2':tmps[u]?.getD undef = .pointer (some ⟨g2,0,none⟩):=by simpa using hp2
 simp [results,h,hp',hp2',asAddr,run_loadVar_row w g t ty cs fr d hg hu hd hi,run_loadVar_row w g2 t2 ty2 cs2 fr2 d2 hg2 hu2 hd2 hi2,Result.andThen]
theorem results_row_tmp0 {P:Program} {fn:Func} {u p:Tmp} {ty:TypeId} (h:fn.results = #[.cell p ty,.tmp u]) (tmps:Array Value) (w:World) (g:Nat) (t:TypeId) (cs:Array Value) (fr:Nat × Nat) (d:TypeDesc)
  (hp:tmps.getD p undef = .pointer (some ⟨g,0,none⟩)) (hg:w.heap[g]? = some (.cells cs t fr))
  (hu:P.underlying ty = some d) (hd:(match d with | .struct _ | .array _ _=>true | _=>false) = true) (hi:(P.info? ty).map (·.size) = some cs.size) :
  (results fn tmps).run P w = .ok (.tuple #[.agg cs,tmps.getD u undef]) w:=by
 have hp':tmps[p]?.getD undef = .pointer (some ⟨g,0,none⟩):=by simpa using hp
 simp [results,h,hp',asAddr,run_loadVar_row w g t ty cs fr d hg hu hd hi,Result.andThen]
theorem three_blocks (w:World) (A B C:Array Value) (TA TB TC:TypeId):let W:=((w.alloc (.cells A TA)).alloc (.cells B TB)).alloc (.cells C TC)
  W.heap[w.heap.size]? = some (.cells A TA)∧W.heap[w.heap.size + 1]? = some (.cells B TB)∧W.heap[w.heap.size + 1 + 1]? = some (.cells C TC)∧W.heap.size = w.heap.size + 3∧Below w.heap.size w W:=by
 intro W
 have h1:=heap_one w (.cells A TA)
 have h2:=heap_one (w.alloc (.cells A TA)) (.cells B TB)
 have h3:=heap_one ((w.alloc (.cells A TA)).alloc (.cells B TB)) (.cells C TC)
 rw [show (w.alloc (.cells A TA)).heap.size = w.heap.size + 1 by simp] at h2
 rw [show ((w.alloc (.cells A TA)).alloc (.cells B TB)).heap.size = w.heap.size + 1 + 1 by simp] at h3
 refine ⟨?_,?_,h3,by simp [W],((below_one w _).alloc (by simp) _).alloc (by simp; omega) _⟩
 ·exact (heap_alloc_old _ _ (by simp; omega)).trans ((heap_alloc_old _ _ (by simp)).trans h1)
 ·exact (heap_alloc_old _ _ (by simp)).trans h2
theorem results_row_tmp {P:Program} {fn:Func} {u p:Tmp} {ty:TypeId} (h:fn.results = #[.cell p ty,.tmp u]) (tmps:Array Value) (w:World) (g:Nat) (t:TypeId) (cs:Array Value) (fr:Nat × Nat) (d:TypeDesc) (v:Value) (hv:tmps.getD u undef = v)
  (hp:tmps.getD p undef = .pointer (some ⟨g,0,none⟩)) (hg:w.heap[g]? = some (.cells cs t fr))
  (hu:P.underlying ty = some d) (hd:(match d with | .struct _ | .array _ _=>true | _=>false) = true) (hi:(P.info? ty).map (·.size) = some cs.size) :
  (results fn tmps).run P w = .ok (.tuple #[.agg cs,v]) w:=by
 subst hv
 exact results_row_tmp0 h tmps w g t cs fr d hp hg hu hd hi
theorem z32_ex2:∃ T:List UInt8,(#[.int .u8 0,.int .u8 0,.int .u8 0,.int .u8 0,.int .u8 0,.int .u8 0,.int .u8 0,.int .u8 0,.int .u8 0,.int .u8 0,.int .u8 0,.int .u8 0,.int .u8 0,.int .u8 0,.int .u8 0,.int .u8 0,.int .u8 0,.int .u8 0,.int .u8 0,.int .u8 0,.int .u8 0,.int .u8 0,.int .u8 0,.int .u8 0,.int .u8 0,.int .u8 0,.int .u8 0,.int .u8 0,.int .u8 0,.int .u8 0,.int .u8 0,.int .u8 0]:Array Value) = (byteCells T).toArray∧T.length = 32:=⟨List.replicate 32 0,rfl,rfl⟩
theorem wpList_hashLoad2 {ops:Array Oper} {rest:List Oper} {o:Oper} {a:Act} {W:World} {Q:Exit→Act→World→Prop} (hw:Region.wanted o (yielded ops a.tmps) = true) (x:Operand) (ho:o.op = .load 23 x)
  (g off:Nat) (hx:a.eval x = .pointer (some ⟨g,off,none⟩)) (l:List UInt8) (hl:l.length = 32) (hr:W.rangeAt g off (byteCells l))
  (h:wpList Tryz.prog ops Q rest (a.put o.dst (.agg (byteCells l).toArray)) W):wpList Tryz.prog ops Q (o :: rest) a W:=
 wpList_step fun K hK=>by
  rw [if_pos hw]
  exact wp_load_mid 23 x ho g off hx (byteCells l) _ hr Tryz.underlying23 rfl (by rw [Lib.byteCells_length,hl]; exact hashInfo) (hK _ _ h)
theorem wpList_hashNe {ops:Array Oper} {rest:List Oper} {o:Oper} {a:Act} {W:World} {Q:Exit→Act→World→Prop} (hw:Region.wanted o (yielded ops a.tmps) = true) (x y:Operand) (t:TypeId) (ho:o.op = .binOp .neq 23 x y t)
  (l m:List UInt8) (hx:a.eval x = .agg (byteCells l).toArray) (hy:a.eval y = .agg (byteCells m).toArray) (hl:l.length = 32) (hm:m.length = 32) (v:Bool) (hv:v = decide (l ≠ m))
  (h:wpList Tryz.prog ops Q rest (a.put o.dst (.bool v)) W):wpList Tryz.prog ops Q (o :: rest) a W:=
 wpList_step fun K hK=>by
  rw [if_pos hw]
  have h2:=run_eqGuard_agg W .neq 23 x y (byteCells l).toArray (byteCells m).toArray h32_guardT
  unfold Oper.wp execOp
  simp only [ho,hx,hy,Sem.run_bind,h2,Result.andThen_ok,(run_hash_cmp l m hl hm W).1,← hv]
  exact hK _ _ h
theorem range_row {W:World} {g:Nat} {l:List UInt8} {T:TypeId} {fr:Nat × Nat} (h:W.heap[g]? = some (.cells (byteCells l).toArray T fr)):W.rangeAt g 0 (byteCells l):=fun j v hv=>by
 rw [Nat.zero_add]
 exact cell_of h j (by rw [List.getElem?_toArray]; exact hv)
theorem there_row {W:World} {g:Nat} {z:Array Value} {T:TypeId} (h:W.heap[g]? = some (.cells z T (0,0))) {n:Nat} (hn:n ≤ z.size):W.there g 0 n:=fun j hj=>by
 rw [Nat.zero_add]
 exact ⟨by rw [cell_of h j (Array.getElem?_eq_getElem (show j < z.size by omega))]; rfl,frozen_row h j⟩
theorem setCells_row {W:World} {g:Nat} {z:Array Value} (h:W.heap[g]? = some (.cells z 23 (0,0))) (hz:z.size = 32) (X:List UInt8) (hX:X.length = 32):W.setCells g 0 (byteCells X) = W.setRow g (byteCells X).toArray:=by
 have h1:=run_storeVar_mid (P:=Tryz.prog) W g 0 23 (byteCells X).toArray (there_row h (by rw [hash_size hX,hz]; exact Nat.le_refl _)) (by rw [hash_size hX]; exact hashInfo) (byteCells_all X)
 have h2:=run_storeVar_row (P:=Tryz.prog) W g 23 23 z (byteCells X).toArray h (by rw [hash_size hX]; exact hashInfo) (by rw [hash_size hX,hz]) (byteCells_all X)
 rw [h1] at h2
 injection h2
theorem cells_oneC (X:List UInt8):∀ v ∈ byteCells X,v.oneCell' = true:=fun v hv=>by
 obtain ⟨b,_,rfl⟩:=List.mem_map.1 hv
 rfl
theorem fold_set_get:∀ (l:List Value) (k:Nat) (acc:Array Value) (i:Nat),((l.zipIdx k).foldl (fun (cs:Array Value) (p:Value × Nat)=>cs.setIfInBounds (0 + p.2) p.1) acc)[i]? = if k ≤ i∧i < k + l.length∧i < acc.size then l[i - k]? else acc[i]?
 | [],k,acc,i=>by
  simp only [List.zipIdx_nil,List.foldl_nil,List.length_nil]
  rw [if_neg (by omega)]
 | c :: r,k,acc,i=>by
  have ih:=fold_set_get r (k + 1) (acc.setIfInBounds (0 + k) c) i
  simp only [List.zipIdx_cons,List.foldl_cons]
  rw [ih]
  simp only [Array.size_setIfInBounds,List.length_cons,Nat.zero_add]
  by_cases h1:k + 1 ≤ i∧i < k + 1 + r.length∧i < acc.size
  ·rw [if_pos h1,if_pos (by omega)]
   rw [show i - k = (i - (k + 1)) + 1 by omega,List.getElem?_cons_succ]
  ·rw [if_neg h1,Array.getElem?_setIfInBounds]
   by_cases h2:k = i
   ·subst h2
    by_cases h3:k < acc.size
    ·rw [if_pos rfl,if_pos h3,if_pos (by omega)]
     simp
    ·rw [if_pos rfl,if_neg h3,if_neg (by omega),Array.getElem?_eq_none (by omega)]
   ·rw [if_neg h2,if_neg (by omega)]
theorem fill_hash (H:List UInt8) (hH:H.length = 32) (acc:Array Value) (ha:acc.size = 32):Instr.fill (fun i=>some (i * 32,32)) acc [(0,Value.agg (byteCells H).toArray)] = some (byteCells H).toArray:=by
 have hc:(Value.agg (byteCells H).toArray).cells = (byteCells H).toArray:=rfl
 simp only [Instr.fill,hc,Nat.zero_mul]
 rw [if_neg (by simp [hash_size hH,ha])]
 congr 1
 rw [← Array.foldl_toList,Array.toList_zipIdx]
 refine Array.ext_getElem? fun i=>?_
 rw [fold_set_get,ha]
 have e2:(byteCells H).length = 32:=by rw [Lib.byteCells_length,hH]
 by_cases h:i < 32
 ·rw [if_pos ⟨Nat.zero_le _,by simp [e2]; exact h,h⟩]
  simp
 ·rw [if_neg (by omega),Array.getElem?_eq_none (by omega),Array.getElem?_eq_none (by rw [hash_size hH]; omega)]
set_option maxRecDepth 100000 in
theorem run_buildSlice_hash (zl:List UInt8) (hz:∀ w:World,(zeroValue 23).run Tryz.prog w = .ok (.agg (byteCells zl).toArray) w) (H:List UInt8) (hH:H.length = 32) (w:World) :
  (Instr.buildSlice 41 1 #[(0,.agg (byteCells H).toArray)]).run Tryz.prog w = .ok (.slice (some ⟨w.heap.size,0,none⟩) 1 1) (w.alloc (.cells (byteCells H).toArray 23)):=by
 have hs:(sizeOf 23).run Tryz.prog w = .ok 32 w:=Tryz.sizeOf23 w
 have hf:=fun acc ha=>fill_hash H hH acc ha
 have h0:¬ (1 * 32 > 2 ^ 24):=by decide
 have h1:¬ (1 * 32 = 0):=by decide
 have hsz:∀ f:Nat→Value,((Array.range (1 * 32)).map f).size = 32:=fun f=>by simp
 unfold Instr.buildSlice
 simp only [Sem.run_bind,run_underlying Tryz.underlying41,Result.andThen_ok,hs,if_neg h0,if_neg h1,Sem.run_pure,hz w]
 rw [hf _ (hsz _)]
 rfl
theorem wpList_buildHash {ops:Array Oper} {rest:List Oper} {o:Oper} {a:Act} {W:World} {Q:Exit→Act→World→Prop} (zl:List UInt8) (hz:∀ w:World,(zeroValue 23).run Tryz.prog w = .ok (.agg (byteCells zl).toArray) w) (hgd:o.guard = none) (x:Operand) (ho:o.op = .buildSlice 41 1 #[(0,x)])
  (H:List UInt8) (hx:a.eval x = .agg (byteCells H).toArray) (hH:H.length = 32)
  (h:wpList Tryz.prog ops Q rest (a.put o.dst (.slice (some ⟨W.heap.size,0,none⟩) 1 1)) (W.alloc (.cells (byteCells H).toArray 23))):wpList Tryz.prog ops Q (o :: rest) a W:=
 wpList_plain hgd fun K hK=>by
  have hr:=run_buildSlice_hash zl hz H hH W
  unfold Oper.wp execOp
  simp only [ho,List.map_toArray,List.map_cons,List.map_nil,hx,Sem.run_bind,hr,Result.andThen_ok,Sem.run_pure]
  exact hK _ _ h
theorem hsIn_of_owns {W:World} {Bs:Nat} {v:Value} {hs:List (List UInt8)} (hl:∀ h ∈ hs,h.length = 32) (h:W.ownsRow Bs 23 32 v hs.length (hcells hs)):HsIn W v hs:=by
 obtain ⟨_,ho⟩:=h
 rcases ho with ⟨rfl,hn⟩ | ⟨g,cap,cur,rfl,_,hg,hc,_,_,htk⟩
 ·exact ⟨hl,none,0,by rw [hn],by omega,fun hne=>absurd (List.length_eq_zero_iff.1 hn) hne⟩
 ·refine ⟨hl,_,cap,rfl,hc,fun _=>⟨g,0,rfl,fun j u hj=>?_⟩⟩
  rw [Nat.zero_add]
  refine cell_of hg j ?_
  rw [← htk,List.getElem?_take] at hj
  split at hj
  ·simpa using hj
  ·cases hj
theorem Tryz.infoHash:∃ z:List UInt8,z.length = 32∧(Tryz.prog.info? 23).map (fun i=>(i.zero,i.size,i.bytes)) = some (some (.agg (byteCells z).toArray),32,32):=⟨List.replicate 32 0,rfl,by kernel_rfl⟩
theorem zeroHash:∃ zl:List UInt8,zl.length = 32∧∀ w:World,(zeroValue 23).run Tryz.prog w = .ok (.agg (byteCells zl).toArray) w:=⟨List.replicate 32 0,rfl,fun w=>by kernel_rfl⟩
theorem hz_cells (l:List UInt8):(byteCells l).toArray.size = l.length:=by rw [List.size_toArray,Lib.byteCells_length]
theorem hcells_snoc (hs:List (List UInt8)) (h:List UInt8):hcells (hs ++ [h]) = hcells hs ++ byteCells h:=by simp [hcells]
abbrev hv (l:List UInt8):Value:=.agg (byteCells l).toArray
def HashAt (W:World) (g:Nat) (l:List UInt8):Prop:=W.heap[g]? = some (.cells (byteCells l).toArray 23 (0,0))∧l.length = 32
theorem HashAt.below {w w':World} {g:Nat} {l:List UInt8} (h:HashAt w g l) (hb:Below w.heap.size w w'):HashAt w' g l:=⟨below_heap hb h.1,h.2⟩
theorem HashAt.new (w:World) (l:List UInt8) (hl:l.length = 32):HashAt (w.alloc (.cells (byteCells l).toArray 23)) w.heap.size l:=⟨heap_one w _,hl⟩
theorem HashAt.lt {w:World} {g:Nat} {l:List UInt8} (h:HashAt w g l):g < w.heap.size:=lt_of_heap h.1
theorem HashAt.set {w:World} {g:Nat} {z l:List UInt8} (h:HashAt w g z) (hl:l.length = 32):HashAt (w.setRow g (byteCells l).toArray) g l:=⟨setRow_heap w g _ (byteCells l).toArray 23 (0,0) h.1,hl⟩
theorem HashAt.other {w:World} {g k:Nat} {z:List UInt8} (h:HashAt w g z) (cs:Array Value) (hne:g ≠ k):HashAt (w.setRow k cs) g z:=⟨(setRow_other w k g cs hne).trans h.1,h.2⟩
theorem HashAt.range {w:World} {g:Nat} {l:List UInt8} (h:HashAt w g l):w.rangeAt g 0 (byteCells l):=range_row h.1
theorem HashAt.there {w:World} {g:Nat} {l:List UInt8} (h:HashAt w g l):w.there g 0 32:=there_row h.1 (by rw [hash_size h.2]; exact Nat.le_refl _)
theorem HashAt.setCells {w:World} {g:Nat} {z l:List UInt8} (h:HashAt w g z) (hl:l.length = 32):w.setCells g 0 (byteCells l) = w.setRow g (byteCells l).toArray:=setCells_row h.1 (hash_size h.2) l hl
theorem wpList_ldH {ops:Array Oper} {rest:List Oper} {o:Oper} {a:Act} {W:World} {Q:Exit→Act→World→Prop} (hgd:o.guard = none) (x:Operand) (ho:o.op = .load 23 x)
  {g:Nat} {l:List UInt8} (hx:a.eval x = .pointer (some ⟨g,0,none⟩)) (hg:HashAt W g l)
  (h:wpList Tryz.prog ops Q rest (a.put o.dst (.agg (byteCells l).toArray)) W):wpList Tryz.prog ops Q (o :: rest) a W:=
 wpList_load_row hgd 23 x ho g hx 23 (byteCells l).toArray (0,0) _ hg.1 Tryz.underlying23 rfl (by rw [hash_size hg.2]; exact hashInfo) h
theorem wpList_stH {ops:Array Oper} {rest:List Oper} {o:Oper} {a:Act} {W:World} {Q:Exit→Act→World→Prop} (hgd:o.guard = none) (x y:Operand) (ho:o.op = .store 23 x y)
  {g:Nat} {l z:List UInt8} (hx:a.eval x = .pointer (some ⟨g,0,none⟩)) (hy:a.eval y = .agg (byteCells l).toArray) (hg:HashAt W g z) (hl:l.length = 32)
  (h:wpList Tryz.prog ops Q rest (a.put o.dst undef) (W.setRow g (byteCells l).toArray)):wpList Tryz.prog ops Q (o :: rest) a W:=
 wpList_store_row hgd 23 x y ho g (byteCells l).toArray hx hy 23 (byteCells z).toArray hg.1 (by rw [hash_size hl]; exact hashInfo) (by rw [hash_size hl,hash_size hg.2]) (byteCells_all l) h
theorem results_H {fn:Func} {p:Tmp} (h:fn.results = #[.cell p 23]) (tmps:Array Value) (w:World) (g:Nat) (l:List UInt8) (hp:tmps.getD p undef = .pointer (some ⟨g,0,none⟩)) (hg:HashAt w g l) :
  (results fn tmps).run Tryz.prog w = .ok (.agg (byteCells l).toArray) w:=
 results_row0 h tmps w g 23 _ (0,0) _ hp hg.1 Tryz.underlying23 rfl (by rw [hash_size hg.2]; exact hashInfo)
theorem results_Ht {fn:Func} {u p:Tmp} {ty:TypeId} (h:fn.results = #[.cell p 23,.tmp u]) (_:ty = 34) (tmps:Array Value) (w:World) (g:Nat) (l:List UInt8) (v:Value) (hv:tmps.getD u undef = v) (hp:tmps.getD p undef = .pointer (some ⟨g,0,none⟩)) (hg:HashAt w g l) :
  (results fn tmps).run Tryz.prog w = .ok (.tuple #[.agg (byteCells l).toArray,v]) w:=
 results_row_tmp h tmps w g 23 _ (0,0) _ v hv hp hg.1 Tryz.underlying23 rfl (by rw [hash_size hg.2]; exact hashInfo)
theorem conv_hash {w:World} {g:Nat} {l:List UInt8} (h:HashAt w g l):(convert 117 9 (.slice (some ⟨g,0,none⟩) 32 32)).run Tryz.prog w = .ok (.string ⟨l.toArray⟩) w:=conv_row w g l h.2 h.1
theorem conv_range {w:World} {g o:Nat} {l:List UInt8} (cap:Nat) (h:w.rangeAt g o (byteCells l)):(convert 117 9 (.slice (some ⟨g,o,none⟩) l.length cap)).run Tryz.prog w = .ok (.string ⟨l.toArray⟩) w:=
 run_convert_bytes_back (P:=Tryz.prog) w 117 9 5 ⟨g,o,none⟩ cap l Tryz.underlying117 Tryz.underlying5 Tryz.underlying9 (fun i hi=>by
  rw [Addr.add_mid]
  exact h i _ (by unfold byteCells; rw [List.getElem?_map,List.getElem?_eq_getElem hi]; rfl))
structure But (bs:List Nat) (w w':World):Prop where
 os:w'.os = w.os
 tape:w'.tape = w.tape
 output:w'.output = w.output
 size:w.heap.size ≤ w'.heap.size
 block:∀ k,k < w.heap.size→k ∉ bs→w'.heap[k]? = w.heap[k]?
theorem But.refl (bs:List Nat) (w:World):But bs w w:=⟨rfl,rfl,rfl,Nat.le_refl _,fun _ _ _=>rfl⟩
theorem But.trans {bs:List Nat} {a b c:World} (h:But bs a b) (k:But bs b c):But bs a c:=
 ⟨k.os.trans h.os,k.tape.trans h.tape,k.output.trans h.output,Nat.le_trans h.size k.size,fun i hi hn=>(k.block i (Nat.lt_of_lt_of_le hi h.size) hn).trans (h.block i hi hn)⟩
theorem But.of_below {bs:List Nat} {w w':World} (h:Below w.heap.size w w'):But bs w w':=⟨h.os,h.tape,h.output,h.size,fun k hk _=>h.block k hk⟩
theorem But.below {bs:List Nat} {B:Nat} {w0 w w':World} (h:But bs w w') (hb:Below B w0 w) (hB:B ≤ w.heap.size) (hbs:∀ k ∈ bs,B ≤ k):Below B w0 w':=
 hb.trans ⟨h.os,h.tape,h.output,h.size,fun k hk=>h.block k (Nat.lt_of_lt_of_le hk hB) fun e=>by have:=hbs k e; omega⟩
theorem But.heap {bs:List Nat} {w w':World} (h:But bs w w') {g:Nat} {o:Obj} (hg:w.heap[g]? = some o) (hn:g ∉ bs):w'.heap[g]? = some o:=(h.block g (lt_of_heap hg) hn).trans hg
theorem But.setCell {bs:List Nat} {w w':World} (h:But bs w w') {p:Addr} (hp:p.block ∈ bs) (v:Value):But bs w (w'.setCell p v):=
 ⟨h.os,h.tape,h.output,by simp [World.setCell]; exact h.size,fun k hk hn=>by
  rw [← h.block k hk hn]
  exact Below.heap_setCell _ _ _ _ fun e=>hn (by rw [e]; exact hp)⟩
theorem But.drew {bs:List Nat} {w w':World} (h:But bs w w'):But bs w w'.drew:=⟨h.os,h.tape,h.output,h.size,h.block⟩
theorem But.of_new {bs:List Nat} {w w' w2:World} (h:But bs w w') (hb:Below w.heap.size w' w2):But bs w w2:=
 ⟨hb.os.trans h.os,hb.tape.trans h.tape,hb.output.trans h.output,Nat.le_trans h.size hb.size,fun k hk hn=>(hb.block k hk).trans (h.block k hk hn)⟩
def RowAt (W:World) (g:Nat) (L:List (List UInt8)):Prop:=W.heap[g]? = some (.cells (hcells L).toArray 23 (0,0))∧∀ x ∈ L,x.length = 32
theorem RowAt.below {w w':World} {g:Nat} {L:List (List UInt8)} (h:RowAt w g L) (hb:Below w.heap.size w w'):RowAt w' g L:=⟨below_heap hb h.1,h.2⟩
theorem RowAt.lt {w:World} {g:Nat} {L:List (List UInt8)} (h:RowAt w g L):g < w.heap.size:=lt_of_heap h.1
theorem RowAt.range {w:World} {g:Nat} {L:List (List UInt8)} (h:RowAt w g L):w.rangeAt g 0 (hcells L):=fun j v hv=>by
 rw [Nat.zero_add]
 exact cell_of h.1 j (by rw [List.getElem?_toArray]; exact hv)
theorem RowAt.in_ {w:World} {g cap:Nat} {L:List (List UInt8)} (h:RowAt w g L) (hc:L.length ≤ cap):HsIn w (.slice (some ⟨g,0,none⟩) L.length cap) L:=⟨h.2,_,_,rfl,hc,fun _=>⟨g,0,rfl,h.range⟩⟩
theorem RowAt.there {w:World} {g:Nat} {L:List (List UInt8)} (h:RowAt w g L) {i:Nat} (hi:i < L.length):w.there g (i * 32) 32:=fun j hj=>by
 refine ⟨?_,frozen_row h.1 _⟩
 have hs:(hcells L).toArray.size = L.length * 32:=by rw [List.size_toArray,hcells_len L h.2]
 rw [cell_of h.1 (i * 32 + j) (v:=(hcells L).toArray[i * 32 + j]'(by rw [hs]; omega)) (Array.getElem?_eq_getElem (by rw [hs]; omega))]
 rfl
theorem heap_setCells:∀ (vs:List Value) (o:Nat) (W:World) (g:Nat) (cs:Array Value) (T:TypeId) (fr:Nat × Nat),W.heap[g]? = some (.cells cs T fr) →
  ∃ cs',(W.setCells g o vs).heap[g]? = some (.cells cs' T fr)∧cs'.size = cs.size∧∀ j,cs'[j]? = if o ≤ j∧j < o + vs.length∧j < cs.size then vs[j - o]? else cs[j]?
 | [],o,W,g,cs,T,fr,h=>⟨cs,h,rfl,fun j=>by rw [if_neg (by simp; omega)]⟩
 | v :: r,o,W,g,cs,T,fr,h=>by
  have h1:(W.setCell ⟨g,o,none⟩ v).heap[g]? = some (.cells (cs.setIfInBounds o v) T fr):=by
   unfold World.setCell
   simp [Array.getElem?_modify,h]
  obtain ⟨cs',e1,e2,e3⟩:=heap_setCells r (o + 1) _ g _ T fr h1
  refine ⟨cs',e1,by rw [e2,Array.size_setIfInBounds],fun j=>?_⟩
  rw [e3 j,Array.size_setIfInBounds,List.length_cons]
  by_cases c1:o + 1 ≤ j∧j < o + 1 + r.length∧j < cs.size
  ·rw [if_pos c1,if_pos (by omega),show j - o = (j - (o + 1)) + 1 by omega,List.getElem?_cons_succ]
  ·rw [if_neg c1,Array.getElem?_setIfInBounds]
   by_cases c2:o = j
   ·subst c2
    by_cases c3:o < cs.size
    ·rw [if_pos rfl,if_pos c3,if_pos (by omega)]
     simp
    ·rw [if_pos rfl,if_neg c3,if_neg (by omega),Array.getElem?_eq_none (by omega)]
   ·rw [if_neg c2,if_neg (by omega)]
theorem setCells_other:∀ (vs:List Value) (o:Nat) (W:World) (g k:Nat),k ≠ g→(W.setCells g o vs).heap[k]? = W.heap[k]?
 | [],_,_,_,_,_=>rfl
 | v :: r,o,W,g,k,h=>(setCells_other r (o + 1) _ g k h).trans (Below.heap_setCell W ⟨g,o,none⟩ v k h)
theorem hcells_get:∀ (L:List (List UInt8)) (j:Nat),(∀ x ∈ L,x.length = 32)→(hcells L)[j]? = (L[j / 32]?).bind fun x=>(byteCells x)[j % 32]?
 | [],j,_=>rfl
 | x :: r,j,h=>by
  have h32:=h x (List.mem_cons_self ..)
  have ih:=hcells_get r (j - 32) fun y hy=>h y (List.mem_cons_of_mem _ hy)
  have e:hcells (x :: r) = byteCells x ++ hcells r:=rfl
  rw [e]
  by_cases c:j < 32
  ·rw [List.getElem?_append_left (by rw [Lib.byteCells_length]; omega),Nat.div_eq_of_lt c,Nat.mod_eq_of_lt c]
   rfl
  ·rw [List.getElem?_append_right (by rw [Lib.byteCells_length]; omega),Lib.byteCells_length,h32,ih,show j / 32 = (j - 32) / 32 + 1 by omega,List.getElem?_cons_succ,show (j - 32) % 32 = j % 32 by omega]
theorem mem_set32 {L:List (List UInt8)} (h:∀ x ∈ L,x.length = 32) (i:Nat) {l:List UInt8} (hl:l.length = 32):∀ x ∈ L.set i l,x.length = 32:=fun x hx=>by
 rcases List.mem_or_eq_of_mem_set hx with h1 | h1
 ·exact h x h1
 ·rw [h1]; exact hl
theorem RowAt.set {w:World} {g:Nat} {L:List (List UInt8)} (h:RowAt w g L) {i:Nat} (hi:i < L.length) {l:List UInt8} (hl:l.length = 32):RowAt (w.setCells g (i * 32) (byteCells l)) g (L.set i l):=by
 have h2:=mem_set32 h.2 i hl
 refine ⟨?_,h2⟩
 obtain ⟨cs',e1,_,e3⟩:=heap_setCells (byteCells l) (i * 32) w g _ _ _ h.1
 have hs:(hcells L).toArray.size = L.length * 32:=by rw [List.size_toArray,hcells_len L h.2]
 have hc:cs' = (hcells (L.set i l)).toArray:=by
  refine Array.ext_getElem? fun j=>?_
  rw [e3 j,List.getElem?_toArray,List.getElem?_toArray,hcells_get _ _ h2,hcells_get _ _ h.2,Lib.byteCells_length,hl,hs,List.getElem?_set]
  by_cases c:i = j / 32
  ·subst c
   rw [if_pos (by omega),if_pos rfl,if_pos hi,show j - j / 32 * 32 = j % 32 by omega]
   rfl
  ·rw [if_neg (by omega),if_neg c]
 rw [e1,hc]
theorem RowAt.other {w:World} {g k o:Nat} {L:List (List UInt8)} {vs:List Value} (h:RowAt w g L) (hne:g ≠ k):RowAt (w.setCells k o vs) g L:=⟨(setCells_other vs o w k g hne).trans h.1,h.2⟩
theorem HashAt.otherC {w:World} {g k o:Nat} {l:List UInt8} {vs:List Value} (h:HashAt w g l) (hne:g ≠ k):HashAt (w.setCells k o vs) g l:=⟨(setCells_other vs o w k g hne).trans h.1,h.2⟩
theorem below_setCellsN {B g:Nat} {w:World} (hg:B ≤ g):∀ (vs:List Value) (o:Nat) (w':World),Below B w w'→Below B w (w'.setCells g o vs)
 | [],_,_,h=>h
 | v :: r,o,w',h=>below_setCellsN hg r (o + 1) (w'.setCell ⟨g,o,none⟩ v) (h.setCell (p:=⟨g,o,none⟩) hg v)
theorem wpList_stR {ops:Array Oper} {rest:List Oper} {o:Oper} {a:Act} {W:World} {Q:Exit→Act→World→Prop} (hgd:o.guard = none) (x y:Operand) (ho:o.op = .store 23 x y)
  {g i:Nat} {L:List (List UInt8)} {l:List UInt8} (hx:a.eval x = .pointer (some ⟨g,i * 32,none⟩)) (hy:a.eval y = .agg (byteCells l).toArray) (hg:RowAt W g L) (hi:i < L.length) (hl:l.length = 32)
  (h:wpList Tryz.prog ops Q rest (a.put o.dst undef) (W.setCells g (i * 32) (byteCells l))):wpList Tryz.prog ops Q (o :: rest) a W:=
 wpList_store_mid hgd 23 x y ho g (i * 32) (byteCells l).toArray hx hy (by rw [hash_size hl]; exact hg.there hi) (by rw [hash_size hl]; exact hashInfo) (byteCells_all l) h
def fillL (z:List UInt8) (F:Nat→List UInt8) (n k:Nat):List (List UInt8):=(List.range n).map fun i=>if i < k then F i else z
theorem fillL_length (z:List UInt8) (F:Nat→List UInt8) (n k:Nat):(fillL z F n k).length = n:=by simp [fillL]
theorem fillL_zero (z:List UInt8) (F:Nat→List UInt8) (n:Nat):fillL z F n 0 = List.replicate n z:=by
 refine List.ext_getElem (by simp [fillL]) fun i h1 h2=>?_
 simp [fillL]
theorem fillL_next (z:List UInt8) (F:Nat→List UInt8) (n k:Nat) (_:k < n):(fillL z F n k).set k (F k) = fillL z F n (k + 1):=by
 refine List.ext_getElem (by simp [fillL]) fun i h1 h2=>?_
 simp only [fillL,List.getElem_set,List.getElem_map,List.getElem_range]
 by_cases c:k = i
 ·subst c
  rw [if_pos rfl,if_pos (by omega)]
 ·rw [if_neg c]
  by_cases c2:i < k
  ·rw [if_pos c2,if_pos (by omega)]
  ·rw [if_neg c2,if_neg (by omega)]
theorem fillL_all (z:List UInt8) (F:Nat→List UInt8) (n:Nat):fillL z F n n = (List.range n).map F:=by
 refine List.map_congr_left fun i hi=>?_
 rw [if_pos (List.mem_range.1 hi)]
theorem made_hashes (z:List UInt8) (hz:z.length = 32) (n:Nat):madeCells (byteCells z).toArray (n * 32) = (hcells (List.replicate n z)).toArray:=by
 have h32:∀ x ∈ List.replicate n z,x.length = 32:=fun x hx=>by rw [(List.mem_replicate.1 hx).2]; exact hz
 have hs:(byteCells z).toArray.size = 32:=hash_size hz
 refine Array.ext (by rw [size_madeCells,List.size_toArray,hcells_len _ h32,List.length_replicate]) fun j h1 h2=>?_
 have hj:j < n * 32:=by rw [List.size_toArray,hcells_len _ h32,List.length_replicate] at h2; exact h2
 have e:=hcells_get (List.replicate n z) j h32
 rw [List.getElem?_replicate,if_pos (by omega),Option.bind_some] at e
 have e2:(byteCells z)[j % 32]? = some ((byteCells z)[j % 32]'(by rw [Lib.byteCells_length]; omega)):=List.getElem?_eq_getElem _
 rw [e2] at e
 have e3:(hcells (List.replicate n z)).toArray[j]? = some ((byteCells z)[j % 32]'(by rw [Lib.byteCells_length]; omega)):=by rw [List.getElem?_toArray]; exact e
 rw [Array.getElem?_eq_getElem h2] at e3
 have e4:=Option.some.inj e3
 rw [e4]
 have hj2:j % 32 < z.length:=by omega
 simp only [madeCells,hs]
 simp [byteCells,List.getElem?_eq_getElem hj2]
theorem make_row (n:Nat) (hn:n ≤ 1048577):∃ z:List UInt8,z.length = 32∧∀ W:World,(Instr.makeSlice 41 (.int .i64 (n:Int)) (.int .i64 (n:Int))).run Tryz.prog W = .ok (.slice (some ⟨W.heap.size,0,none⟩) n n) (W.alloc (.cells (hcells (List.replicate n z)).toArray 23)):=by
 obtain ⟨zl,hzl,hinfo⟩:=Tryz.infoHash
 obtain ⟨i0,hi,hz0,hz1,hz2⟩:=info_parts hinfo
 refine ⟨zl,hzl,fun W=>?_⟩
 have h:=run_make (P:=Tryz.prog) W 41 23 i0 _ Tryz.underlying41 hi hz0 .i64 .i64 (n:Int) (n:Int) (by omega) (Int.le_refl _) (by rw [hz2]; omega) (by omega)
 rw [Int.toNat_natCast,hz1] at h
 rw [h,← made_hashes zl hzl n]
 rfl
end Go.Proofs.YticlgcfodlcpcaaGreatDoor
