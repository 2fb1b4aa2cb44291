/- From a row's list of package-level variables to what the walks know (Base). -/
import Derived.Test.YticlgcfodlcpcaaGreatDoorRows
import Derived.Test.YticlgcfodlcpcaaGreatDoorBase
import Derived.Test.YticlgcfodlcpcaaGreatDoorShelf
import Derived.LaidLaws
import Derived.LaidHandle
import Derived.LaidSub
import Derived.Lib.LaidU8T
import Derived.Lib.LaidTab
import Derived.OpenShut
import Derived.Stop.LaidErr
namespace Go.Proofs.YticlgcfodlcpcaaGreatDoor
open Go.RowKit Go.ChangeShapes Go.WideShapes
theorem laid_sents {P:Program} {nm:String} {ti tp te ts:TypeId} {ms:Array (String × TypeId)} {f:Field} {W:World}
  (hi:P.underlying ti = some (.interface ms)) (hrow:∀ u,P.typeName? 3 u = some nm→u = tp)
  (hp:P.underlying tp = some (.pointer te)) (he:P.underlying te = some (.struct #[f])) (hft:f.type = ts) (hfo:f.offset = 0) (hs:P.underlying ts = some .string) (hc:P.cellsOf te = 1) (hcs:P.cellsOf ts = 1) :
  ∀ (L:List (String × DataW Unit)) (r:List (String × DataW Unit)) (ps:List MemPlace),
   (∀ x ∈ L,(∃ g,P.globalNamed x.1 = some g∧(P.globals[g]?).map (·.type) = some ti)∧∃ text,x.2 = .iface nm (.ptr (.agg [.lit (.string text)]))) →
   DataW.LaidVars P W (L ++ r) ps →
   (∀ b off,MemPlace.cell b off ∈ ps→(∃ c t,W.heap[b]? = some (.cells c t (0,0)))∧∀ u v,W.cell? ⟨b,off,none⟩ = some (.iface u v)→Value.okWide P W .any 0 u v) →
   ∃ (ads:List Addr) (q:List MemPlace),ads.length = L.length∧(∀ (i:Nat) (x:String × DataW Unit),L[i]? = some x→∃ a,ads[i]? = some a∧W.var? P x.1 = some #[.iface tp (.pointer (some a))]) ∧
    (ads.map fun a=>MemPlace.cell a.block a.off).Sublist ps∧DataW.LaidVars P W r q∧q.Sublist ps
 | [],r,ps,_,h,_=>⟨[],ps,rfl,fun i x hx=>by simp at hx,by simp,h,List.Sublist.refl _⟩
 | (n,d) :: L,r,ps,hL,h,hrows=>by
  obtain ⟨⟨g0,hg0,ht0⟩,text,hdt⟩:=hL (n,d) (List.mem_cons_self ..)
  obtain rfl:d = _:=hdt
  obtain ⟨g,t,cs,fuel,p,q,hg,ht,hv,hd,hr,rfl⟩:=h
  obtain rfl:=Option.some.inj (hg0.symm.trans hg)
  obtain rfl:=Option.some.inj (ht0.symm.trans ht)
  obtain ⟨l0⟩:=cs
  have ok0:∀ u v,l0 = [.iface u v]→Value.okWide P W .any 0 u v:=fun u v e=>by
   subst e
   exact (hrows g0 0 (by simp [MemPlace.row])).2 u v (by simpa using World.var?_cell hg hv 0)
  obtain ⟨a,s,rfl,hc0,hs0,hz0,rfl⟩:=errorString_of_trod hi hrow hp he hft hfo hs hc hcs hd ok0
  obtain ⟨ads,q',hlen,hvars,hsub,hr',hq'⟩:=laid_sents hi hrow hp he hft hfo hs hc hcs L r q (fun x hx=>hL x (List.mem_cons_of_mem _ hx)) hr
   (fun b off hm=>hrows b off (List.mem_append_right _ hm))
  refine ⟨a :: ads,q',by simp [hlen],fun i x hx=>?_,?_,hr',hq'.trans (List.sublist_append_right _ _)⟩
  ·cases i with
   | zero=>
    simp only [List.getElem?_cons_zero,Option.some.injEq] at hx
    subst hx
    exact ⟨a,rfl,hv⟩
   | succ i=>exact hvars i x (by simpa using hx)
  ·rw [List.map_cons]
   have h1:[MemPlace.cell a.block a.off].Sublist (MemPlace.row a 1):=by simp [MemPlace.row]
   exact (h1.trans (List.sublist_append_right _ _)).append hsub
abbrev LA:List (String × DataW Unit):=(Rows.noteTakesRow.laid.eraseIdx 18)
noncomputable def ent (k:Nat):String × DataW Unit:=LA.getD k (default,.nil)
def nmOf:DataW Unit→String
 | .iface n _=>n
 | _=>default
noncomputable def sentOk (x:String × DataW Unit):Bool:=
 (match Tryz.prog.globalNamed x.1 with | some g=>(Tryz.prog.globals[g]?).map (·.type) == some 34 | none=>false) &&
 (match x.2 with | .iface n (.ptr (.agg [.lit (.string _)]))=>n == nmOf (ent 2).2 | _=>false)
theorem sentOk_spec {x:String × DataW Unit} (h:sentOk x = true) :
  (∃ g,Tryz.prog.globalNamed x.1 = some g∧(Tryz.prog.globals[g]?).map (·.type) = some 34)∧∃ text,x.2 = .iface (nmOf (ent 2).2) (.ptr (.agg [.lit (.string text)])):=by
 unfold sentOk at h
 rw [Bool.and_eq_true] at h
 obtain ⟨h1,h2⟩:=h
 constructor
 ·split at h1
  ·rename_i g hg
   exact ⟨g,hg,by simpa using h1⟩
  ·cases h1
 ·split at h2
  ·rename_i n text hx
   exact ⟨text,by rw [hx,← (by simpa using h2:n = nmOf (ent 2).2)]⟩
  ·cases h2
theorem laid_filter:(LA.filter fun x=>x.2.handleName?.isNone) = ent 0 :: ((LA.drop 2).take 16 ++ LA.drop 18):=by kernel_rfl
theorem laid_filter2:(LA.filter fun x=>x.2.handleName?.isSome) = [ent 1]:=by kernel_rfl
theorem laid_sentOk:((LA.drop 2).take 16).all sentOk = true:=by kernel_rfl
theorem laid_names:∀ i,1 ≤ i→i ≤ 16→∃ x,((LA.drop 2).take 16)[i - 1]? = some x∧Tryz.prog.globalNamed x.1 = some (errG i):=by
 intro i h1 h2
 rcases (show i = 1 ∨ i = 2 ∨ i = 3 ∨ i = 4 ∨ i = 5 ∨ i = 6 ∨ i = 7 ∨ i = 8 ∨ i = 9 ∨ i = 10 ∨ i = 11 ∨ i = 12 ∨ i = 13 ∨ i = 14 ∨ i = 15 ∨ i = 16 by omega) with rfl | rfl | rfl | rfl | rfl | rfl | rfl | rfl | rfl | rfl | rfl | rfl | rfl | rfl | rfl | rfl <;> exact ⟨_,rfl,by kernel_rfl⟩
theorem starE : "*" ++ "errors.errorString" = "*errors.errorString" := by decide
theorem rowE (u : TypeId) (h : Tryz.prog.typeName? 3 u = some "*errors.errorString") : u = 251 :=
 typeName_ptr_named (nm := "errors.errorString") (by rw [starE]; kernel_rfl) (by kernel_rfl) (by decide) u (by rw [starE]; exact h)
theorem nmE : nmOf (ent 2).2 = "*errors.errorString" := by kernel_rfl
theorem types_size:Tryz.prog.types.size = 281:=by kernel_rfl
theorem oneError:((List.range 281).filter fun t=>Tryz.prog.rowNamed t [101,114,114,111,114]) = [34]:=by kernel_rfl
theorem rtypeRow : (Tryz.prog.cutTypes.find? (·.1 == "internal/reflectlite.rtype")).map (·.2) = some 185 := by kernel_rfl
theorem gErrType:Tryz.prog.globalNamed (ent 1).1 = some 19:=by kernel_rfl
theorem handle_error:typeHandle Tryz.prog 34 = .pointer (some ⟨22,34,none⟩):=by kernel_rfl
theorem gBlanks:Tryz.prog.globalNamed (ent 18).1 = some 18:=by kernel_rfl
theorem tBlanks:(Tryz.prog.globals[18]?).map (·.type) = some 167:=by kernel_rfl
theorem heap_of_var {P:Program} {w:World} {n:String} {g:Nat} {cs:Array Value} (hg:P.globalNamed n = some g) (h:w.var? P n = some cs):∃ t fr,w.heap[g]? = some (.cells cs t fr):=by
 simp only [World.var?,hg,Option.bind_some] at h
 split at h
 ·rename_i c t fr hc
  cases h
  exact ⟨t,fr,hc⟩
 ·cases h
theorem blanks_of_reads {W:World} (h:Lib.VarReads Tryz.prog W (ent 18).1 (ent 18).2):∃ t fr,W.heap[18]? = some (.cells blankCells t fr):=by
 obtain ⟨g,t,cs,fuel,p,hg,hty,hvar,hd⟩:=h
 obtain rfl:=Option.some.inj (gBlanks.symm.trans hg)
 obtain rfl:=Option.some.inj (tBlanks.symm.trans hty)
 have hlen:cs.toList.length = 18:=by
  obtain ⟨_,_,_,_,hl,_⟩:=DataW.trod_array Tryz.underlying167 hd
  rw [hl]; kernel_rfl
 have hel:∀ i,i < 9→(cs.toList.drop (i * 2)).take 2 = [.int .i32 (blankTab.getD (2 * i) 0),.int .i32 (blankTab.getD (2 * i + 1) 0)]:=by
  intro i hi
  have hdat:(ent 18).2 = .agg ((List.range 9).map fun i=>Lib.tabData .i32 [blankTab.getD (2 * i) 0,blankTab.getD (2 * i + 1) 0]):=by kernel_rfl
  rw [hdat] at hd
  obtain ⟨fuel',d,q,hdi,he⟩:=Lib.array_elem Tryz.underlying167 hd i hi
  simp only [List.getElem?_map,List.getElem?_range hi,Option.map_some,Option.some.injEq] at hdi
  subst hdi
  have hc2:Tryz.prog.cellsOf 166 = 2:=by kernel_rfl
  rw [hc2] at he
  have:=Lib.cells_of_tab Tryz.underlying166 Tryz.underlying21 (by kernel_rfl) hc2 he
  simpa using this
 have hcs:cs = blankCells:=by
  have e:cs.toList = blankCells.toList:=by
   apply List.ext_getElem?
   intro k
   by_cases hk:k < 18
   ·have h1:=hel (k / 2) (by omega)
    have h2:=congrArg (·[k % 2]?) h1
    simp only [List.getElem?_take,List.getElem?_drop] at h2
    rw [if_pos (by omega),show k / 2 * 2 + k % 2 = k by omega] at h2
    rw [h2]
    rcases (show k = 0 ∨ k = 1 ∨ k = 2 ∨ k = 3 ∨ k = 4 ∨ k = 5 ∨ k = 6 ∨ k = 7 ∨ k = 8 ∨ k = 9 ∨ k = 10 ∨ k = 11 ∨ k = 12 ∨ k = 13 ∨ k = 14 ∨ k = 15 ∨ k = 16 ∨ k = 17 by omega) with rfl | rfl | rfl | rfl | rfl | rfl | rfl | rfl | rfl | rfl | rfl | rfl | rfl | rfl | rfl | rfl | rfl | rfl <;> rfl
   ·rw [List.getElem?_eq_none (by omega),List.getElem?_eq_none (by show 18 ≤ k; omega)]
  exact Array.toList_inj.1 e
 obtain ⟨t,fr,hh⟩:=heap_of_var gBlanks hvar
 exact ⟨t,fr,by rw [← hcs]; exact hh⟩
theorem int_of_shape {P:Program} {w:World} {g:Nat} {t:TypeId} {k:IntKind} {zero:Array Value} (h:w.ShapedOpen P) (hg:g < P.globals.size)
  (h0:((begin P (fun _ _=>0) default).world.heap[g]?).bind Obj.row? = some (zero,t)) (hz:zero.size = 1)
  (hb:P.buildable t = true) (hc:P.cellTypes P.depth t = some [t]) (hu:P.underlying t = some (.int k)):∃ m,w.cell? ⟨g,0,none⟩ = some (.int k m):=by
 obtain ⟨cs,hh,hs,hr⟩:=h.1 g zero t hg h0
 obtain ⟨ts,hts,_,hall⟩:=hr hb
 rw [hc] at hts
 cases hts
 have h1:0 < cs.size:=by omega
 obtain ⟨u,hu',hok⟩:=hall 0 cs[0] (by simp [h1])
 have:u = t:=by simpa using hu'.symm
 subst this
 have hcell:w.cell? ⟨g,0,none⟩ = some cs[0]:=by simp [World.cell?,hh,h1]
 rw [hcell]
 unfold Cell.ok at hok
 rw [hu] at hok
 cases hv:cs[0] <;> rw [hv] at hok <;> first | exact ⟨_,congrArg some (by rw [(hok:_∧_).1])⟩ | simp at hok
theorem maxLen_int {W:World} (hsh:W.ShapedOpen Tryz.prog):∃ m,W.cell? ⟨20,0,none⟩ = some (.int .i64 m):=
 int_of_shape (zero:=#[.int .i64 0]) hsh (of_decide_eq_true (by kernel_rfl)) (by kernel_rfl) rfl (by kernel_rfl) (by kernel_rfl) Tryz.underlying3
theorem u8Extra:U8Extra Tryz.prog Tryz.lays196_ren:=⟨by kernel_rfl,by kernel_rfl,by kernel_rfl,by kernel_rfl,by kernel_rfl,by kernel_rfl,by kernel_rfl⟩
abbrev kF:Nat:=19
theorem ent19 : ent kF = ("unicode/utf8.first", Lib.firstData) := by kernel_rfl
theorem ent0 : ent 0 = ("unicode/utf8.acceptRanges", Lib.acceptData) := by kernel_rfl
theorem base_of_laid {W:World} (h:laidMetH Tryz.prog LA W) (hsh:W.ShapedOpen Tryz.prog):∃ S,Base S W:=by
 obtain ⟨hm,hh⟩:=laidMetH_iff.1 h
 rw [laid_filter] at hm
 rw [laid_filter2] at hh
 have hmx:=maxLen_int hsh
 have hacc:=Lib.laidMet.reads hm (n:=(ent 0).1) (d:=(ent 0).2) (List.mem_cons_self ..)
 have hbl:=Lib.laidMet.reads hm (n:=(ent 18).1) (d:=(ent 18).2) (List.mem_cons_of_mem _ (List.mem_append_right _ (List.mem_cons_self ..)))
 have hfi:=Lib.laidMet.reads hm (n:=(ent kF).1) (d:=(ent kF).2) (List.mem_cons_of_mem _ (List.mem_append_right _ (List.mem_cons_of_mem _ (List.mem_cons_self ..))))
 have hm1:laidMet Tryz.prog ((LA.drop 2).take 16 ++ LA.drop 18) W:=hm.tail
 obtain ⟨ps,hv,hnd,hrows⟩:=hm1
 have hi0:=Tryz.underlying34
 obtain ⟨ads,q,hlen,hvars,hsub,_,_⟩:=laid_sents (f:=_) hi0 (fun u hu=>rowE u (by rw [hu,nmE]))
  Tryz.underlying251 Tryz.underlying269 rfl rfl Tryz.underlying9 (by kernel_rfl) (by kernel_rfl)
  _ _ ps (fun x hx=>sentOk_spec (List.all_eq_true.1 laid_sentOk x hx)) hv hrows
 have hads:ads.length = 16:=by rw [hlen]; rfl
 have hget:∀ i,1 ≤ i→i ≤ 16→∃ a,ads[i - 1]? = some a∧W.cell? ⟨errG i,0,none⟩ = some (.iface 251 (.pointer (some a))):=by
  intro i h1 h2
  obtain ⟨x,hx,hg⟩:=laid_names i h1 h2
  obtain ⟨a,ha,hv⟩:=hvars (i - 1) x hx
  exact ⟨a,ha,by simpa using World.var?_cell hg hv 0⟩
 refine ⟨fun i=>ads.getD (i - 1) default,?_⟩
 constructor
 ·intro i h1 h2
  obtain ⟨a,ha,hc⟩:=hget i h1 h2
  rw [hc]
  simp [errV,List.getD_eq_getElem?_getD,ha]
 ·intro i h1 h2
  obtain ⟨a,ha,_⟩:=hget i h1 h2
  have hmem:MemPlace.cell a.block a.off ∈ ps:=hsub.subset (List.mem_map.2 ⟨a,List.mem_of_getElem? ha,rfl⟩)
  simp only [List.getD_eq_getElem?_getD,ha,Option.getD_some]
  exact (hrows _ _ hmem).1
 ·intro i j h1 h2 h3 h4 he
  obtain ⟨a,ha,_⟩:=hget i h1 h2
  obtain ⟨b,hb,_⟩:=hget j h3 h4
  simp only [List.getD_eq_getElem?_getD,ha,hb,Option.getD_some] at he
  subst he
  have hnd2:=hnd.sublist hsub
  have e1:(ads.map fun a=>MemPlace.cell a.block a.off)[i - 1]? = some (MemPlace.cell a.block a.off):=by simp [ha]
  have e2:(ads.map fun a=>MemPlace.cell a.block a.off)[j - 1]? = some (MemPlace.cell a.block a.off):=by simp [hb]
  have:=(List.getElem?_inj (by simp; omega) hnd2).1 (e1.trans e2.symm)
  omega
 ·obtain ⟨name,u,ty,e1,e2,e3,e4,e5⟩:=hh _ (List.mem_singleton.2 rfl)
  have en:name = [101,114,114,111,114]:=(Option.some.inj (show some [101,114,114,111,114] = some name from e1)).symm
  subst en
  obtain rfl:=Option.some.inj (rtypeRow.symm.trans e2)
  have hmem:ty ∈ (List.range 281).filter fun t=>Tryz.prog.rowNamed t [101,114,114,111,114]:=List.mem_filter.2 ⟨List.mem_range.2 (by rw [← types_size]; exact e3),e4⟩
  rw [oneError] at hmem
  obtain rfl:=List.mem_singleton.1 hmem
  rw [handle_error] at e5
  simpa using World.var?_cell gErrType e5 0
 ·(rw [ent19] at hfi; rw [ent0] at hacc; exact utf8Tabs_of_readsT (U8Types.of196 Tryz.lays196) u8Extra hfi hacc)
 ·exact blanks_of_reads hbl
 ·exact hmx
end Go.Proofs.YticlgcfodlcpcaaGreatDoor
