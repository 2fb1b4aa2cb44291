/- note.Open: what it tells; who is known,as a map that was filled. note.Open by its contract. -/
import Derived.Test.YticlgcfodlcpcaaGreatDoorNSign
import Derived.Test.YticlgcfodlcpcaaGreatDoorSameT
namespace Go.Proofs.YticlgcfodlcpcaaGreatDoor
open Go.Lib (hid byteCells)
open Go.RowKit
def shortL (L:Lines):Prop:=∀ x ∈ L,x.1.length ≤ 64∧x.2.length ≤ 4096
theorem readLn_short (row:List UInt8) (x:List UInt8 × List UInt8) (h:readLn row = some x):x.1.length ≤ 64∧x.2.length ≤ 4096:=by
 refine ⟨readLn_name row x h,?_⟩
 unfold readLn at h
 split at h
 ·rename_i hc
  cases h
  exact hc.2.2.2.2.2
 ·cases h
theorem linesN_short:∀ (f p:Nat) (l:List UInt8) (acc R:Lines),shortL acc→linesN f p l acc = .ok R→shortL R
 | 0,p,l,acc,R,h,e=>by
  unfold linesN at e
  split at e
  ·cases e; exact h
  ·cases e
 | f + 1,p,l,acc,R,h,e=>by
  unfold linesN at e
  split at e
  ·cases e; exact h
  ·split at e
   ·cases e
   ·rename_i x hx
    split at e
    ·cases e
    ·exact linesN_short f _ _ _ R (fun y hy=>by
      rcases List.mem_append.1 hy with hy | hy
      ·exact h y hy
      ·rw [List.mem_singleton.1 hy]; exact readLn_short _ _ hx) e
theorem shortL_nil:shortL []:=fun _ h=>absurd h List.not_mem_nil
theorem toldN_short {n:Nat} {t:List UInt8} {E:Except Nat Lines} {t2:List UInt8} {L:Lines} {c:Nat} {p:Option Int} (h:toldN n t E = ((t2,L),c,p)) (hE:∀ R,E = .ok R→shortL R):shortL L:=by
 cases E with
 | error i=>
  simp only [toldN,Prod.mk.injEq] at h
  rw [← h.1.2]; exact shortL_nil
 | ok l=>
  have:=hE l rfl
  cases l with
  | nil=>
   simp only [toldN,Prod.mk.injEq] at h
   rw [← h.1.2]; exact shortL_nil
  | cons x r=>
   simp only [toldN,Prod.mk.injEq] at h
   rw [← h.1.2]; exact this
theorem splitN_short (note:List UInt8) {t:List UInt8} {L:Lines} {c:Nat} {p:Option Int} (h:splitN note = ((t,L),c,p)):shortL L:=by
 unfold splitN at h
 split at h
 ·simp only [Prod.mk.injEq] at h
  rw [← h.1.2]; exact shortL_nil
 ·split at h
  ·simp only [Prod.mk.injEq] at h
   rw [← h.1.2]; exact shortL_nil
  ·split at h
   ·simp only [Prod.mk.injEq] at h
    rw [← h.1.2]; exact shortL_nil
   ·exact toldN_short h fun R hR=>linesN_short _ _ _ _ R shortL_nil hR
def fndK (KL:List Kn) (nm:List UInt8):Option Kn:=KL.find? fun k=>decide (k.1 = nm)
def openL (t:List UInt8) (KL:List Kn):Lines→Option (List (List UInt8))
 | []=>some []
 | x :: r=>match fndK KL x.1 with
  | none=>openL t KL r
  | some k=>if holdsF t k x.2 = true then (openL t KL r).map (x.1 :: ·) else none
def openN (note:List UInt8) (KL:List Kn):(List UInt8 × List (List UInt8)) × Nat × Option Int:=
 if (splitN note).2.1 ≠ 0 then (([],[]),(splitN note).2) else
 match openL (splitN note).1.1 KL (splitN note).1.2 with
 | none=>(([],[]),12,none)
 | some ns=>if ns = [] then (([],[]),12,none) else (((splitN note).1.1,ns),0,none)
theorem openL_no {t:List UInt8} {KL:List Kn} {x:List UInt8 × List UInt8} {r:Lines} (h:fndK KL x.1 = none):openL t KL (x :: r) = openL t KL r:=by
 rw [openL]; rw [h]
theorem openL_bad {t:List UInt8} {KL:List Kn} {x:List UInt8 × List UInt8} {r:Lines} {k:Kn} (h:fndK KL x.1 = some k) (hh:holdsF t k x.2 = false):openL t KL (x :: r) = none:=by
 rw [openL]; rw [h]; simp [hh]
theorem openL_yes {t:List UInt8} {KL:List Kn} {x:List UInt8 × List UInt8} {r:Lines} {k:Kn} (h:fndK KL x.1 = some k) (hh:holdsF t k x.2 = true):openL t KL (x :: r) = (openL t KL r).map (x.1 :: ·):=by
 rw [openL]; rw [h]; simp [hh]
def WhoR (KL:List Kn) (i:Nat) (l:List (List UInt8 × Nat)):Prop:=
 l.Pairwise (fun p q=>p.1 ≠ q.1)∧l.length ≤ i∧(∀ s j,l.lookup s = some j→∃ k,fndK KL s = some k∧KL[j]? = some k)∧(∀ s,l.lookup s = none→∀ j k,j < i→KL[j]? = some k→k.1 ≠ s)
theorem whoR_nil (KL:List Kn):WhoR KL 0 []:=⟨List.Pairwise.nil,Nat.le_refl _,fun s j h=>(by cases h),fun s _ j k h=>absurd h (Nat.not_lt_zero _)⟩
theorem find_first {α:Type} {p:α→Bool}:∀ (l:List α) (i:Nat) (x:α),l[i]? = some x→p x = true→(∀ j y,j < i→l[j]? = some y→p y = false)→l.find? p = some x
 | [],i,x,h,_,_=>by simp at h
 | y :: r,0,x,h,hp,_=>by
  simp only [List.getElem?_cons_zero,Option.some.injEq] at h
  subst h
  exact List.find?_cons_of_pos hp
 | y :: r,i + 1,x,h,hp,hn=>by
  have h0:=hn 0 y (by omega) rfl
  rw [List.find?_cons_of_neg (by simp [h0])]
  exact find_first r i x (by simpa using h) hp fun j z hj hz=>hn (j + 1) z (by omega) (by simpa using hz)
theorem find_none {α:Type} {p:α→Bool} (l:List α) (h:∀ (j:Nat) y,l[j]? = some y→p y = false):l.find? p = none:=by
 rw [List.find?_eq_none]
 intro x hx
 obtain ⟨j,hj,rfl⟩:=List.getElem_of_mem hx
 simp [h j _ (List.getElem?_eq_getElem hj)]
theorem whoR_old {KL:List Kn} {i:Nat} {l:List (List UInt8 × Nat)} (h:WhoR KL i l) {k:Kn} (hk:KL[i]? = some k) (hl:(l.lookup k.1).isSome = true):WhoR KL (i + 1) l:=by
 obtain ⟨h1,h2,h3,h4⟩:=h
 refine ⟨h1,by omega,h3,fun s hs j k' hj hk' e=>?_⟩
 by_cases hji:j = i
 ·subst hji
  rw [hk] at hk'
  cases hk'
  rw [e,hs] at hl
  cases hl
 ·exact h4 s hs j k' (by omega) hk' e
theorem lookup_ne {l:List (List UInt8 × Nat)} {s:List UInt8} (h:l.lookup s = none):∀ q ∈ l,q.1 ≠ s:=by
 induction l with
 | nil=>exact fun _ h=>absurd h List.not_mem_nil
 | cons q r ih=>
  simp only [List.lookup] at h
  split at h
  ·cases h
  ·rename_i hq
   intro x hx
   rcases List.mem_cons.1 hx with rfl | hx
   ·intro e
    rw [e] at hq
    simp at hq
   ·exact ih h x hx
theorem whoR_new {KL:List Kn} {i:Nat} {l:List (List UInt8 × Nat)} (h:WhoR KL i l) {k:Kn} (hk:KL[i]? = some k) (hl:(l.lookup k.1).isSome = false):WhoR KL (i + 1) (l ++ [(k.1,i)]):=by
 obtain ⟨h1,h2,h3,h4⟩:=h
 have hn:l.lookup k.1 = none:=by simpa using hl
 have hd:=lookup_ne hn
 refine ⟨List.pairwise_append.2 ⟨h1,List.pairwise_singleton ..,fun a ha b hb=>by rw [List.mem_singleton.1 hb]; exact hd a ha⟩,by rw [List.length_append,List.length_singleton]; omega,fun s j hs=>?_,fun s hs j k' hj hk' e=>?_⟩
 ·rw [lookup_snocS l (k.1,i) s hd] at hs
  split at hs
  ·rename_i e
   cases hs
   refine ⟨k,find_first KL i k hk (by simp [e]) fun j y hj hy=>?_,hk⟩
   have:=h4 k.1 hn j y hj hy
   rw [e]
   exact decide_eq_false this
  ·exact h3 s j hs
 ·rw [lookup_snocS l (k.1,i) s hd] at hs
  split at hs
  ·cases hs
  ·rename_i hne
   by_cases hji:j = i
   ·subst hji
    rw [hk] at hk'
    cases hk'
    exact hne e.symm
   ·exact h4 s hs j k' (by omega) hk' e
theorem whoR_look {KL:List Kn} {l:List (List UInt8 × Nat)} (h:WhoR KL KL.length l) (s:List UInt8):(l.lookup s = none∧fndK KL s = none) ∨ ∃ j k,l.lookup s = some j∧fndK KL s = some k∧KL[j]? = some k:=by
 cases e:l.lookup s with
 | none=>
  refine .inl ⟨rfl,find_none KL fun j y hy=>?_⟩
  have:=h.2.2.2 s e j y (List.getElem?_eq_some_iff.1 hy).1 hy
  exact decide_eq_false this
 | some j=>
  obtain ⟨k,h1,h2⟩:=h.2.2.1 s j e
  exact .inr ⟨j,k,rfl,h1,h2⟩
def kz:Kn:=([],List.replicate 32 0,0)
def VK (KL:List Kn) (i:Nat):Value:=.agg (knC (KL.getD i kz)).toArray
theorem VK_at {KL:List Kn} {i:Nat} {k:Kn} (h:KL[i]? = some k):VK KL i = .agg (knC k).toArray:=by
 unfold VK
 rw [List.getD_eq_getElem?_getD,h]
 rfl
theorem VK_end (KL:List Kn):VK KL KL.length = .agg (knC kz).toArray:=by
 unfold VK
 rw [List.getD_eq_getElem?_getD,List.getElem?_eq_none (Nat.le_refl _)]
 rfl
set_option maxRecDepth 100000 in
theorem kz_zero (W:World):(zeroValue 64).run Tryz.prog W = .ok (.agg (knC kz).toArray) W:=by kernel_rfl
def KnIn (W:World) (v:Value) (KL:List Kn):Prop:=∃ ao cap,v = .slice ao KL.length cap∧(KL ≠ []→∃ g,ao = some ⟨g,0,none⟩∧∀ (i:Nat) k,KL[i]? = some k→W.rangeAt g (i * 34) (knC k))
theorem KnIn.below {w w':World} {v:Value} {KL:List Kn} (h:KnIn w v KL) (hb:Below w.heap.size w w'):KnIn w' v KL:=by
 obtain ⟨ao,cap,rfl,h2⟩:=h
 refine ⟨ao,cap,rfl,fun hne=>?_⟩
 obtain ⟨g,rfl,hr⟩:=h2 hne
 exact ⟨g,rfl,fun i k hk=>range_below hb (hr i k hk)⟩
theorem knNil (W:World):KnIn W (.slice none 0 0) []:=⟨none,0,rfl,fun h=>absurd rfl h⟩
theorem wpList_knLoad {ops:Array Oper} {rest:List Oper} {o:Oper} {a:Act} {W:World} {Q:Exit→Act→World→Prop} (hgd:o.guard = none) (x:Operand) (ho:o.op = .load 64 x)
  (g off:Nat) (hx:a.eval x = .pointer (some ⟨g,off,none⟩)) (k:Kn) (hl:k.2.1.length = 32) (hr:W.rangeAt g off (knC k))
  (h:wpList Tryz.prog ops Q rest (a.put o.dst (.agg (knC k).toArray)) W):wpList Tryz.prog ops Q (o :: rest) a W:=
 wpList_load_mid hgd 64 x ho g off hx (knC k) _ hr Tryz.underlying64 rfl (by rw [knC_len hl]; exact infoKn) h
theorem wpList_known {ops:Array Oper} {rest:List Oper} {o:Oper} {a:Act} {w2:World} {Q:Exit→Act→World→Prop} (hgd:o.guard = none) (x y:Operand) (ho:o.op = .store 64 x y)
  {k:Kn} {old:Array Value} (hx:a.eval x = .pointer (some ⟨w2.heap.size,0,none⟩)) (hy:a.eval y = .agg (knC k).toArray) (hl:k.2.1.length = 32) (hold:old.size = 34)
  (h:wpList Tryz.prog ops Q rest (a.put o.dst undef) (w2.alloc (.cells (knC k).toArray 64))):wpList Tryz.prog ops Q (o :: rest) a (w2.alloc (.cells old 64)):=by
 refine wpList_store_row hgd 64 x y ho w2.heap.size _ hx hy 64 old (heap_alloc_new w2 _) (by rw [knC_size hl]; exact infoKn) (by rw [knC_size hl,hold]) (knC_one k) ?_
 rw [stored1]
 exact h
set_option maxRecDepth 100000 in
theorem strInfoO:(Tryz.prog.info? 9).map (fun i=>(i.zero,i.size,i.bytes)) = some (some (.string ⟨#[]⟩),1,16):=by kernel_rfl
theorem wpList_appendTx {ops:Array Oper} {rest:List Oper} {o:Oper} {a:Act} {W:World} {Q:Exit→Act→World→Prop} (hgd:o.guard = none) (s x:Operand)
  (ho:o.op = .call { callee:=.builtin .append,args:=#[s,x],argTypes:=#[58,58] }) {B m g cap:Nat} {v:Value} {xs:List Value} {nm:List UInt8}
  (hs:a.eval s = v) (hown:W.ownsRow B 9 1 v m xs) (hx:a.eval x = .slice (some ⟨g,0,none⟩) 1 cap) (hr:W.heap[g]? = some (.cells #[.string ⟨nm.toArray⟩] 9 (0,0))) (hm:m ≤ 1000) (hB:B ≤ W.heap.size)
  (h:∀ v' W',W'.ownsRow B 9 1 v' (m + 1) (xs ++ [.string ⟨nm.toArray⟩])→W.grownBy W' v.ownBlock→wpList Tryz.prog ops Q rest (a.put o.dst v') W'):wpList Tryz.prog ops Q (o :: rest) a W:=
 wpList_plain hgd fun K hK=>by
  obtain ⟨i0,hi,hz⟩:=Option.map_eq_some_iff.1 strInfoO
  simp only [Prod.mk.injEq] at hz
  obtain ⟨hz0,hz1,hz2⟩:=hz
  obtain ⟨v',W',hr2,h2,h3,_,_⟩:=run_append_own_at (P:=Tryz.prog) W B 58 o.type 9 i0 _ 1 16 Tryz.underlying58 hi hz0 hz1 hz2 rfl (by decide) v m xs hown ⟨g,0,none⟩ 1 cap [.string ⟨nm.toArray⟩] rfl (fun j u hj=>by
   rw [Addr.add_mid,Nat.zero_add]
   exact cell_of hr j (by rw [← hj]; simp)) (by intro u hu; simp at hu; subst hu; rfl) (by unfold maxLen; omega) (by omega) hB
  unfold Oper.wp execOp
  simp only [ho,resolve,invoke,builtin,Sem.run_bind,Sem.run_pure,Result.andThen_ok,List.map_toArray,List.map_cons,List.map_nil,hs,hx,hr2]
  exact hK _ _ (h v' W' h2 h3)
def tcells (L:List (List UInt8)):List Value:=L.map fun l=>.string ⟨l.toArray⟩
theorem tcells_snoc (L:List (List UInt8)) (x:List UInt8):tcells (L ++ [x]) = tcells L ++ [.string ⟨x.toArray⟩]:=by simp [tcells]
theorem texts_of_owns {W:World} {B:Nat} {v:Value} {L:List (List UInt8)} (h:W.ownsRow B 9 1 v L.length (tcells L)):TextsIn W v L:=by
 rcases h.2 with ⟨rfl,hn⟩ | ⟨g,cap,cur,rfl,_,hg,hc,_,_,htk⟩
 ·exact ⟨none,0,by rw [hn],fun hne=>absurd (List.length_eq_zero_iff.1 hn) hne⟩
 ·refine ⟨_,cap,rfl,fun _=>⟨g,0,rfl,fun j u hj=>?_⟩⟩
  rw [Nat.zero_add]
  refine cell_of hg j ?_
  have hj2:(tcells L)[j]? = some (.string ⟨u.toArray⟩):=by unfold tcells; rw [List.getElem?_map,hj]; rfl
  rw [← htk,List.getElem?_take] at hj2
  split at hj2
  ·simpa using hj2
  ·cases hj2
theorem textsNil (W:World):TextsIn W (.slice none 0 0) []:=⟨none,0,rfl,fun h=>absurd rfl h⟩
def OpenPost (S:Nat→Addr) (w:World) (A:(List UInt8 × List (List UInt8)) × Nat × Option Int) (e:Ending) (w':World):Prop:=
 ∃ v ev,e = .returned (.tuple #[.string ⟨A.1.1.toArray⟩,v,ev])∧(∀ W:World,(∀ k,w.heap.size ≤ k→k < w'.heap.size→W.heap[k]? = w'.heap[k]?)→TextsIn W v A.1.2)∧ErrAt S w' ev A.2.1 A.2.2∧Below w.heap.size w w'
def O1 (KL:List Kn) (w1:World) (B mb:Nat) (iv:Value) (wr:World):Prop:=
 ∃ (i:Nat) (l:List (List UInt8 × Nat)),iv = .int .i64 (i:Int)∧i ≤ KL.length∧WhoR KL i l∧SMap wr (VK KL) mb l∧Below B w1 wr
def O2 (t:List UInt8) (KL:List Kn) (L:Lines) (w1:World) (B mb:Nat) (l:List (List UInt8 × Nat)) (nv iv:Value) (wr:World):Prop:=
 ∃ (i:Nat) (acc:List (List UInt8)),iv = .int .i64 (i:Int)∧i ≤ L.length∧acc.length ≤ i∧openL t KL L = (openL t KL (L.drop i)).map (acc ++ ·)∧wr.ownsRow B 9 1 nv acc.length (tcells acc)∧SMap wr (VK KL) mb l∧Below B w1 wr
set_option maxHeartbeats 8000000 in
set_option maxRecDepth 100000 in
theorem open_any (S:Nat→Addr) (s:List UInt8) (kv:Value) (KL:List Kn) (hs:s.length ≤ 4611686018427386000) (hK:∀ k ∈ KL,knOk k) (hKL:KL.length ≤ 1000) (w:World) (hF:FW S w) (hkv:KnIn w kv KL) :
  Calls Tryz.prog 19 #[.string ⟨s.toArray⟩,kv] w fun e w'=>OpenPost S w (openN s KL) e w':=by
 have HF:=hid hF
 have HKV:=hid hkv
 have HK:=hid hK
 have HKL:=hid hKL
 have HSP:=hid (split_any S s hs w hF.base)
 obtain ⟨A,hA⟩:∃ A,openN s KL = A:=⟨_,rfl⟩
 rw [hA]
 unfold openN at hA
 obtain ⟨Z,hZ⟩:∃ Z,splitN s = Z:=⟨_,rfl⟩
 rw [hZ] at HSP hA
 obtain ⟨⟨t,L⟩,c,p⟩:=Z
 have HSH:=hid (splitN_short s hZ)
 have h16:=splitN_le s hZ
 have HTL:=hid (fun h=>((splitN_bound s hZ).1 h).2)
 have HA:=hid hA
 unfold SplitPost at HSP
 obtain ⟨kao,kcap,rfl,_⟩:=hkv
 clear hF hK hs hA hZ
 go_enter Tryz.func19,Tryz.ntmps19
 by_cases hc:c = 0
 ·subst hc
  have HT:=hid (HTL.out rfl)
  have hKL0:=HKL.out
  have hmm:=@run_makeMap Tryz.prog
  go_upto_region 5 with (go_at_call 33; refine HSP.out.mono ?_; rintro e w1 ⟨lv,ev,rfl,hln,hev,hb1⟩; obtain rfl:ev = .nilIface:=ErrAt.zero2 hev rfl; have HLN:=hid hln; obtain ⟨lao,lcap,rfl,_,_⟩:=hln; have HB1:=hid hb1; clear hev hb1)
  have HKN1:=hid (HKV.out.below HB1.out)
  have hkv1:KnIn (w1.alloc (.map #[] 0)) _ KL:=HKN1.out.below (below_one w1 _)
  have HS0:=hid (show O1 KL w1 w1.heap.size w1.heap.size (.int .i64 ((0:Nat):Int)) (w1.alloc (.map #[] 0)) from ⟨0,[],rfl,Nat.zero_le _,whoR_nil KL,SMap.new w1 _,below_one w1 _⟩)
  have HFW1:=hid (HF.out.below HB1.out)
  have HFB:=hid (fun (W:World) (hW:Below w1.heap.size w1 W)=>HFW1.out.below hW)
  have HKB:=hid (fun (W:World) (hW:Below w1.heap.size w1 W)=>HKN1.out.below hW)
  have HLB:=hid (fun (W:World) (hW:Below w1.heap.size w1 W)=>HLN.out.below hW)
  have HBB:=hid (fun (W:World) (hW:Below w1.heap.size w1 W)=>HB1.out.trans (hW.mono HB1.out.size))
  have HMS:=hid (fun (W:World) (hW:Below w1.heap.size w1 W)=>hW.size)
  have HLA:=hid (fun (W W':World) (hW:Below w1.heap.size w1 W) (hW':Below W.heap.size W W')=>hW.trans (hW'.mono hW.size))
  have hsz1:=HB1.out.size
  have HSZ1:=hid hsz1
  clear hsz1
  clear hmm hkv1
  generalize w1.alloc (.map #[] 0) = wm at *
  generalize e1:w1.heap.size = mb at *
  clear e1
  go_wp2_with fail
  go_loopw [30] (fun iv wr=>O1 KL w1 mb mb iv wr) (fun iv _=>KL.length - (intOf iv).toNat)
  case atStart=>first | exact HS0.out | (have h:=HS0.out; simpa using h)
  case round=>
   obtain ⟨i,l,rfl,hi,hwho,hmap,hbel⟩:=hrel
   rename World=>wr
   have HWHO:=hid hwho
   have HMAP:=hid hmap
   have HBEL:=hid hbel
   clear HS0
   by_cases hlt:i < KL.length
   ·obtain ⟨k,hk⟩:∃ k,KL[i]? = some k:=⟨_,List.getElem?_eq_getElem hlt⟩
    obtain ⟨kn1,kp1,kh1⟩:=k
    have hok:=HK.out _ (List.mem_of_getElem? hk)
    have HKO:=hid hok
    obtain ⟨kao',kcap',hkv',hkr⟩:=HKB.out _ hbel
    obtain ⟨g,rfl,hr⟩:=hkr (fun e=>by rw [e] at hlt; exact Nat.not_lt_zero _ hlt)
    cases hkv'
    have HR:=hid (hr i _ hk)
    have HKI:=hid hk
    have i1:(i:Int) < (KL.length:Int):=by omega
    have i2:(KL.length:Int) ≤ 1000:=by omega
    clear hwho hmap hbel hok hr hkr hk
    go_upto_region 8 with (first | (refine wpList_knLoad (by rfl) (.tmp 32) (by rfl) g (i * 34) (by rfl) _ HKO.out.2.1 HR.out ?_) | (refine wpList_known (by rfl) (.tmp 11) (.tmp 33) (by rfl) (by rfl) (by rfl) HKO.out.2.1 (by rfl) ?_))
    have HB2:=hid (HBEL.out.alloc (HMS.out _ HBEL.out) (.cells (knC (kn1,kp1,kh1)).toArray 64 (0,0)))
    have HM2:=hid (HMAP.out.below (below_one wr (.cells (knC (kn1,kp1,kh1)).toArray 64 (0,0))))
    have hx2:=heap_one wr (.cells (knC (kn1,kp1,kh1)).toArray 64 (0,0))
    generalize wr.alloc (.cells (knC (kn1,kp1,kh1)).toArray 64) = wr2 at *
    generalize wr.heap.size = xb at *
    have c0:=cell_of hx2 0 (knC_zero (kn1,kp1,kh1))
    have HX2:=hid hx2
    have HR2:=hid (kn_row (k:=(kn1,kp1,kh1)) hx2)
    obtain ⟨k',hk'⟩:∃ k',KL.getD ((l.lookup kn1).getD KL.length) kz = k':=⟨_,rfl⟩
    have HKO':=hid (show k'.2.1.length = 32 by
     rw [← hk',List.getD_eq_getElem?_getD]
     cases e:KL[(l.lookup kn1).getD KL.length]? with
     | none=>rfl
     | some z=>exact (HK.out z (List.mem_of_getElem? e)).2.1)
    obtain ⟨B,hB⟩:∃ B,(l.lookup kn1).isSome = B:=⟨_,rfl⟩
    have hlk:(Instr.lookup 106 (.map (some mb)) (.string ⟨kn1.toArray⟩) true).run Tryz.prog wr2 = .ok (.tuple #[.agg (knC k').toArray,.bool B]) wr2:=by
     have h:=smap_look HM2.out HWHO.out.1 Tryz.underlying106 KL.length (by rw [VK_end]; exact kz_zero wr2) kn1 HKO.out.1
     unfold VK at h
     rw [hk',hB] at h
     exact h
    have hxb:xb ≠ mb:=fun e=>by
     obtain ⟨es,clock,hb,_⟩:=HM2.out
     have h:=HX2.out
     rw [e,hb] at h
     cases h
    have HXB:=hid hxb
    clear hk' hx2 hxb HR HBEL HMAP
    go_upto_region 9 with (refine wpList_known (by rfl) (.tmp 12) (.tmp 39) (by rfl) (by rfl) (by rfl) HKO'.out (by rfl) ?_)
    have HB3:=hid (HB2.out.alloc (HMS.out _ HB2.out) (.cells (knC k').toArray 64 (0,0)))
    have hb3:=below_one wr2 (.cells (knC k').toArray 64 (0,0))
    have HM3:=hid (HM2.out.below hb3)
    have HR3:=hid (range_below hb3 HR2.out)
    have c0:=below_cell hb3 c0
    clear hb3 hlk HX2 HR2
    generalize wr2.alloc (.cells (knC k').toArray 64) = wr3 at *
    clear HB2 HM2
    cases B with
    | true=>
     have HWN:=hid (whoR_old HWHO.out HKI.out hB)
     clear hB
     go_wp2_with fail
     refine ⟨⟨i + 1,l,?_,hlt,HWN.out,HM3.out,HB3.out⟩,?_⟩
     ·congr 1
     ·simp [intOf]; omega
    | false=>
     have HWN:=hid (whoR_new HWHO.out HKI.out hB)
     clear hB
     go_upto_region 11 with (first | (refine wpList_knLoad (by rfl) (.tmp 11) (by rfl) xb 0 (by rfl) _ HKO.out.2.1 HR3.out ?_) | (at_mapUpdate; refine wpList_putS (by rfl) (.tmp 43) (.tmp 45) _ 106 (by rfl) Tryz.underlying106 (by rfl) HM3.out (by have:=HWHO.out.2.1; omega) kn1 HKO.out.1 i (by rfl) (by rw [VK_at HKI.out]; rfl) ?_; intro w6 hm6 hg6))
     have HB6:=hid (HB3.out.grown hg6 (HMS.out _ HB3.out) (fun g hg=>by cases hg; exact Nat.le_refl _))
     have HM6:=hid hm6
     clear hm6 hg6 c0
     go_wp2_with fail
     refine ⟨⟨i + 1,_,?_,hlt,HWN.out,HM6.out,HB6.out⟩,?_⟩
     ·congr 1
     ·simp [intOf]; omega
   ·obtain rfl:i = KL.length:=by omega
    have i1:¬ (KL.length:Int) < (KL.length:Int):=by omega
    have i2:(L.length:Int) ≤ 16:=by omega
    have hl0:=HSZ1.out
    clear hwho hmap hbel
    go_upto_region 13 with fail
    have HS2:=hid (show O2 t KL L w1 mb mb l (.slice none 0 0) (.int .i64 ((0:Nat):Int)) wr from ⟨0,[],rfl,Nat.zero_le _,Nat.le_refl _,by simp,⟨rfl,.inl ⟨rfl,rfl⟩⟩,HMAP.out,HBEL.out⟩)
    clear HMAP HBEL hl0
    go_loopw [5,50] (fun nv iv wr=>O2 t KL L w1 mb mb l nv iv wr) (fun _ iv _=>L.length - (intOf iv).toNat)
    case atStart=>first | exact HS2.out | (have h:=HS2.out; simpa using h)
    case round=>
     obtain ⟨i,acc,rfl,hi,hacc,heq,hown,hmap,hbel⟩:=hrel
     rename World=>wr
     obtain ⟨nao,ncap,rfl⟩:=own_form hown
     have HEQ:=hid heq
     have HOWN:=hid hown
     have HMAP:=hid hmap
     have HBEL:=hid hbel
     have HACC:=hid hacc
     clear HS2
     by_cases hlt:i < L.length
     ·have i3:(i:Int) < (L.length:Int):=by omega
      obtain ⟨x,hx⟩:∃ x,L[i]? = some x:=⟨_,List.getElem?_eq_getElem hlt⟩
      obtain ⟨lao',lcap',hlv',_,hlr⟩:=HLB.out _ hbel
      obtain ⟨g,rfl,hr⟩:=hlr (fun e=>by rw [e] at hlt; exact Nat.not_lt_zero _ hlt)
      cases hlv'
      have hl2:=lcells_at L i x hx
      have c0:=(by have h:=hr _ _ hl2.1; rwa [Nat.zero_add] at h)
      have c1:=(by have h:=hr _ _ hl2.2; rwa [Nat.zero_add] at h)
      have HSX:=hid (HSH.out x (List.mem_of_getElem? hx))
      have HDR:=hid (show L.drop i = x :: L.drop (i + 1) by
       rw [List.drop_eq_getElem_cons hlt]
       have h:=List.getElem?_eq_getElem hlt
       rw [hx] at h
       rw [Option.some.inj h])
      have HLT:=hid hlt
      have HI16:=hid (show i ≤ 16 by omega)
      obtain ⟨nm,bs⟩:=x
      clear hr hl2 hx hlt hi hacc heq hown hmap hbel hlr
      go_upto_region 15 with fail
      have hb8:=below_one wr (.cells #[.string ⟨nm.toArray⟩,.string ⟨bs.toArray⟩] 92 (0,0))
      have hc8:=heap_one wr (.cells #[.string ⟨nm.toArray⟩,.string ⟨bs.toArray⟩] 92 (0,0))
      have HB8:=hid (HLA.out _ _ HBEL.out hb8)
      have HM8:=hid (HMAP.out.below hb8)
      have HOW8:=hid (rowKeepK HOWN.out fun g hg=>hb8.block g (HOWN.out.lt g hg).2)
      clear hb8 c0 c1 HBEL HMAP HOWN
      generalize wr.alloc (.cells #[.string ⟨nm.toArray⟩,.string ⟨bs.toArray⟩] 92) = w8 at *
      generalize wr.heap.size = xb at *
      have c0:=cell_of hc8 0 rfl
      have c1:=cell_of hc8 1 rfl
      obtain ⟨k',hk'⟩:∃ k',KL.getD ((l.lookup nm).getD KL.length) kz = k':=⟨_,rfl⟩
      obtain ⟨B,hB⟩:∃ B,(l.lookup nm).isSome = B:=⟨_,rfl⟩
      have hlk:(Instr.lookup 106 (.map (some mb)) (.string ⟨nm.toArray⟩) true).run Tryz.prog w8 = .ok (.tuple #[.agg (knC k').toArray,.bool B]) w8:=by
       have h:=smap_look HM8.out HWHO.out.1 Tryz.underlying106 KL.length (by rw [VK_end]; exact kz_zero w8) nm (by have:=HSX.out.1; simp only at this; omega)
       unfold VK at h
       rw [hk',hB] at h
       exact h
      have HXC:=hid hc8
      clear hc8
      rcases whoR_look HWHO.out nm with ⟨hl1,hl2⟩ | ⟨j,k,hl1,hl2,hl3⟩
      ·obtain rfl:false = B:=by rw [← hB,hl1]; rfl
       obtain rfl:kz = k':=by rw [← hk',hl1,List.getD_eq_getElem?_getD,Option.getD_none,List.getElem?_eq_none (Nat.le_refl _)]; rfl
       have HNO:=hid (openL_no (t:=t) (x:=(nm,bs)) (r:=L.drop (i + 1)) hl2)
       clear hk' hB hl1 hl2
       go_upto_region 16 with (refine wpList_known (by rfl) (.tmp 16) (.tmp 59) (by rfl) (by rfl) (by rfl) (show kz.2.1.length = 32 from rfl) (by rfl) ?_)
       have hb9:=below_one w8 (.cells (knC kz).toArray 64 (0,0))
       have HB9:=hid (HLA.out _ _ HB8.out hb9)
       have HM9:=hid (HM8.out.below hb9)
       have HOW9:=hid (rowKeepK HOW8.out fun g hg=>hb9.block g (HOW8.out.lt g hg).2)
       clear hb9 hlk c0 c1
       generalize w8.alloc (.cells (knC kz).toArray 64) = w9 at *
       go_wp2_with fail
       refine ⟨⟨i + 1,acc,?_,HLT.out,by have:=HACC.out; omega,?_,HOW9.out,HM9.out,HB9.out⟩,?_⟩
       ·congr 1
       ·rw [HEQ.out,HDR.out,HNO.out]
       ·have:=HLT.out; simp [intOf]; omega
      ·obtain rfl:true = B:=by rw [← hB,hl1]; rfl
       obtain rfl:k = k':=by rw [← hk',hl1,List.getD_eq_getElem?_getD,Option.getD_some,hl3]; rfl
       have HKO:=hid (HK.out k (List.mem_of_getElem? hl3))
       have HFK:=hid hl2
       clear hk' hB hl1 hl2 hl3
       have HHO:=hid (fun (W:World) (hW:Below mb w1 W)=>holds_any S nm bs t k HKO.out (by have:=HSX.out.2; simp only at this; omega) (by have:=HT.out; omega) W (HFB.out W hW))
       obtain ⟨H,hH⟩:∃ H,holdsF t k bs = H:=⟨_,rfl⟩
       rw [hH] at HHO
       go_upto_region 16 with (refine wpList_known (by rfl) (.tmp 16) (.tmp 59) (by rfl) (by rfl) (by rfl) HKO.out.2.1 (by rfl) ?_)
       have hb9:=below_one w8 (.cells (knC k).toArray 64 (0,0))
       have HB9:=hid (HLA.out _ _ HB8.out hb9)
       have HM9:=hid (HM8.out.below hb9)
       have HOW9:=hid (rowKeepK HOW8.out fun g hg=>hb9.block g (HOW8.out.lt g hg).2)
       have HKR:=hid (kn_row (k:=k) (heap_one w8 (.cells (knC k).toArray 64 (0,0))))
       have HX9:=hid (below_heap hb9 HXC.out)
       have c0:=below_cell hb9 c0
       have c1:=below_cell hb9 c1
       clear hlk hb9
       generalize w8.alloc (.cells (knC k).toArray 64) = w9 at *
       generalize w8.heap.size = yb at *
       cases H with
       | true=>
        have HYE:=hid (openL_yes (t:=t) (x:=(nm,bs)) (r:=L.drop (i + 1)) HFK.out hH)
        clear hH
        go_upto_region 19 with (first | (refine wpList_knLoad (by rfl) (.tmp 16) (by rfl) yb 0 (by rfl) _ HKO.out.2.1 HKR.out ?_) | (go_at_call 49; refine (HHO.out w9 HB9.out).mono ?_; rintro e w10 ⟨rfl,hb10⟩))
        have HB10:=hid (HLA.out _ _ HB9.out hb10)
        have HM10:=hid (HM9.out.below hb10)
        have HOW10:=hid (rowKeepK HOW9.out fun g hg=>hb10.block g (HOW9.out.lt g hg).2)
        have c0:=below_cell hb10 c0
        have c1:=below_cell hb10 c1
        clear hb10
        clear c1
        go_upto_region 20 with (refine wpList_appendTx (by rfl) (.tmp 69) (.tmp 72) (by rfl) (by rfl) (rowKeepK HOW10.out fun g hg=>(below_one w10 (.cells #[.string ⟨nm.toArray⟩] 9 (0,0))).block g (HOW10.out.lt g hg).2) (by rfl) (heap_one w10 _) (by have:=HACC.out; have:=HI16.out; omega) (HMS.out _ (HLA.out _ _ HB10.out (below_one w10 _))) ?_; intro v8 w11 h2 h3)
        have HM8b:=HM10.out.below (below_one w10 (.cells #[.string ⟨nm.toArray⟩] 9 (0,0)))
        have HOWb:=rowKeepK HOW10.out fun g hg=>(below_one w10 (.cells #[.string ⟨nm.toArray⟩] 9 (0,0))).block g (HOW10.out.lt g hg).2
        have HM11:=hid (World.ownsMap.kept HM8b h3 (fun e=>own_ne_map HOWb HM8b e.symm):SMap w11 (VK KL) mb l)
        have hb10a:=HLA.out _ _ HB10.out (below_one w10 (.cells #[.string ⟨nm.toArray⟩] 9 (0,0)))
        have HB11:=hid (hb10a.grown h3 (HMS.out _ hb10a) (fun g hg=>(HOWb.lt g hg).1))
        have HOW11:=hid h2
        clear h2 h3 HM8b HOWb hb10a c0
        go_wp2_with fail
        refine ⟨⟨i + 1,acc ++ [nm],?_,HLT.out,?_,?_,?_,HM11.out,HB11.out⟩,?_⟩
        ·congr 1
        ·rw [List.length_append,List.length_singleton]; have:=HACC.out; omega
        ·rw [HEQ.out,HDR.out,HYE.out,Option.map_map]
         congr 1
         funext z
         simp
        ·rw [List.length_append,List.length_singleton,tcells_snoc]
         exact HOW11.out
        ·have:=HLT.out; simp [intOf]; omega
       | false=>
        have HNE:=hid (openL_bad (t:=t) (x:=(nm,bs)) (r:=L.drop (i + 1)) HFK.out hH)
        have HAE:=hid (show (([],[]),12,none) = A by
         have h:=HA.out
         rw [if_neg (by simp)] at h
         rw [HEQ.out,HDR.out,HNE.out] at h
         exact h)
        clear hH
        go_upto_region 18 with (first | (refine wpList_knLoad (by rfl) (.tmp 16) (by rfl) yb 0 (by rfl) _ HKO.out.2.1 HKR.out ?_) | (go_at_call 49; refine (HHO.out w9 HB9.out).mono ?_; rintro e w10 ⟨rfl,hb10⟩))
        have HB10:=hid (HLA.out _ _ HB9.out hb10)
        have gg:=(HFB.out _ HB10.out).base.var 12 (by decide) (by decide)
        simp only [errG,errV] at gg
        clear hb10 c0 c1
        go_wp2_with fail
        go_quiet (fail)
        go_wp2_with fail
        go_ret3
        rw [← HAE.out]
        exact ⟨_,_,rfl,fun W _=>textsNil W,.inr (.inl ⟨by decide,by decide,rfl,rfl⟩),HBB.out _ (HLA.out _ _ HB10.out ⟨rfl,rfl,rfl,Nat.le_refl _,fun _ _=>rfl⟩)⟩
     ·obtain rfl:i = L.length:=by omega
      have i3:¬ (L.length:Int) < (L.length:Int):=by omega
      have HFIN:=hid (show (if acc = [] then (([],[]),12,none) else ((t,acc),0,none)) = A by
       have h:=HA.out
       rw [if_neg (by simp)] at h
       rw [HEQ.out,List.drop_of_length_le (Nat.le_refl _),openL] at h
       simpa using h)
      clear hlt hi hacc heq hown hmap hbel
      cases acc with
      | nil=>
       have HAE:=hid (show (([],[]),12,none) = A by have h:=HFIN.out; simpa using h)
       have gg:=(HFB.out _ HBEL.out).base.var 12 (by decide) (by decide)
       simp only [errG,errV] at gg
       go_wp2_with fail
       go_quiet (fail)
       go_wp2_with fail
       go_ret3
       rw [← HAE.out]
       exact ⟨_,_,rfl,fun W _=>textsNil W,.inr (.inl ⟨by decide,by decide,rfl,rfl⟩),HBB.out _ (HLA.out _ _ HBEL.out ⟨rfl,rfl,rfl,Nat.le_refl _,fun _ _=>rfl⟩)⟩
      | cons y r=>
       have HAE:=hid (show ((t,y :: r),0,none) = A by have h:=HFIN.out; simpa using h)
       have ln0:(((y :: r).length:Int) == 0) = false:=by rw [beq_eq_false_iff_ne,List.length_cons]; omega
       have HTX:=hid (fun (W:World) (hW:∀ k,w.heap.size ≤ k→k < wr.heap.size→W.heap[k]? = wr.heap[k]?)=>texts_of_owns (rowKeepK HOWN.out fun g hg=>hW g (Nat.le_trans HSZ1.out (HOWN.out.lt g hg).1) (HOWN.out.lt g hg).2))
       go_wp2_with fail
       go_ret3
       rw [← HAE.out]
       exact ⟨_,_,rfl,HTX.out,ErrAt.nil S _,HBB.out _ HBEL.out⟩
 ·have HAE:=hid (show (([],[]),c,p) = A by
   have h:=HA.out
   rw [if_pos (by simpa using hc)] at h
   exact h)
  go_upto_region 2 with (go_at_call 33; refine HSP.out.mono ?_; rintro e w1 ⟨lv,ev,rfl,hln,hev,hb1⟩; have HEV:=hid hev; obtain ⟨TT,xx,rfl,hne⟩:=ErrAt.some2 hev hc; obtain ⟨lao,lcap,rfl,_,_⟩:=hln; have HB1:=hid hb1; clear hev hb1)
  go_wp2_with fail
  go_ret3
  rw [← HAE.out]
  exact ⟨_,_,rfl,fun W _=>textsNil W,HEV.out,HB1.out⟩
theorem text_any (S:Nat→Addr) (s:List UInt8) (hs:s.length ≤ 4611686018427386000) (w:World) (hF:Base S w) :
  Calls Tryz.prog 16 #[.string ⟨s.toArray⟩] w fun e w'=>∃ ev,e = .returned (.tuple #[.string ⟨(splitN s).1.1.toArray⟩,ev])∧ErrAt S w' ev (splitN s).2.1 (splitN s).2.2∧Below w.heap.size w w':=by
 have HSP:=hid (split_any S s hs w hF)
 obtain ⟨A,hA⟩:∃ A,splitN s = A:=⟨_,rfl⟩
 rw [hA] at HSP
 rw [hA]
 unfold SplitPost at HSP
 clear hF hs hA
 go_enter Tryz.func16,Tryz.ntmps16
 go_wp2_with (go_at_call 33; refine HSP.out.mono ?_; rintro e w1 ⟨lv,ev,rfl,hln,hev,hb1⟩)
 go_ret2
 exact ⟨ev,rfl,hev,hb1⟩
end Go.Proofs.YticlgcfodlcpcaaGreatDoor
