/- The claim's frame of NoteSigns: from the walk's contract to the card (Said). -/
import Derived.Test.YticlgcfodlcpcaaGreatDoorLaidN
import Derived.Test.YticlgcfodlcpcaaGreatDoorNSgOpen
import Derived.Test.YticlgcfodlcpcaaGreatDoorNSigns
import Derived.ChangeMaps5
import Derived.ShutString
import Derived.DataShut
namespace Go.Proofs.YticlgcfodlcpcaaGreatDoor
open Go.ChangeShapes Go.WideShapes Go.ChangeAt Go.RowKit Go.ChangeMaps
namespace NoteSignsFrame
theorem laidEq:Rows.noteSignsRow.laid = LN:=by rfl
def Walk:Prop:=∀ (S:Nat→Addr) (one two:List UInt8) (height:Int) (ov:Value) (OL:List Sop) (w:World),one.length = 32→two.length = 32→idxOk height→OL.length ≤ 140737488351232→OpsIn w ov OL→FW S w →
 Calls Tryz.prog 3 #[.agg (scC one two height ov).toArray] w fun e w'=>e = .returned (.bool true)∧Below w.heap.size w w'
set_option maxRecDepth 100000 in
theorem contract (walk:Walk) (H:Type) (enc:TypeId × Value→H) (W:World) (base:Nat) (args:Array Value) (ds gs:List (DataW H)) (before:List MemPlace)
  (hval:∀ (j:Nat) t v,Tryz.f3.params[j]? = some t→args[j]? = some v→Value.okWide Tryz.prog W .any base t v)
  (hW:DataW.Whole enc Tryz.prog Tryz.f3.params.toList Rows.noteSignsSpec.vars false W args.toList ds gs before) (hsh:W.ShapedOpen Tryz.prog) (hL:laidMetH Tryz.prog Rows.noteSignsRow.laid W) (hz:(DataW.weightsEach Tryz.prog (Tryz.f3.params.toList ++ (OpenSpec.ofChange Rows.noteSignsSpec).bare.plain.varTypes Tryz.prog) (ds ++ gs)).all (· ≤ reachBytes) = true) :
  Calls Tryz.prog 3 args W fun e W'=>∃ v,e = .returned v∧Rows.noteSignsSpec.post enc Tryz.prog Tryz.f3 false true false false W args v W':=by
 have hW':=hW
 obtain ⟨p,q,hA0,hV,rfl,_,_⟩:=hW
 have hA:DataW.TrodAll enc Tryz.prog W 0 (fun _=>true) true Tryz.f3.params.toList args.toList ds p:=hA0
 rw [Tryz.params3] at hA hval
 obtain ⟨v0,vs0,d0,ds0,p0,q0,hargs,rfl,rfl,h0,tr0⟩:=trodAll_cons hA
 obtain ⟨rfl,rfl,rfl⟩:=trodAll_nil tr0
 obtain rfl:args = #[v0]:=by cases args; simp_all
 obtain ⟨rfl,rfl⟩:=trodVars_none hV
 have hk0:=h0
 have hz0:=hz
 rw [Tryz.params3] at hz0
 simp only [DataW.weightsEach,List.cons_append,List.nil_append,List.all_append,Bool.and_eq_true] at hz0
 obtain ⟨one,two,height,ov,OL,rfl,k1,k2,k3,k4,k5⟩:=open_script (hval 0 26 v0 rfl rfl) h0 hz0.1
 clear hA0
 simp only [List.append_nil] at hW'
 obtain ⟨S,hB⟩:=fw_of_laid (laidEq ▸ hL) hsh
 refine (walk S one two height ov OL W k1 k2 k3 k4 k5 hB).mono fun e W' ⟨he,hb⟩=>?_
 subst he
 have hlt0:∀ x ∈ p0,x.block < W.heap.size:=fun x hx=>by simpa using hW'.lt x (by simp [hx])
 exact ⟨_,rfl,_,_,_,[],_,[],hW',trodAll_mk1 (shut_bool Tryz.underlying4 _),trodAll_mk1 (Below.trod laidOutT (by kernel_rfl) (of_decide_eq_true (by kernel_rfl)) hk0 hb hlt0),rfl,hb.frame _,fun h=>by cases h⟩
def witSc:Value:=.agg (scC (List.replicate 32 0) (List.replicate 32 0) 0 (.slice none 0 0)).toArray
def zDs {H:Type}:DataW H:=.agg (List.replicate 32 (.lit (.int .u8 0)))
def witScD {H:Type}:DataW H:=.agg [zDs,zDs,.lit (.int .i64 0),.nil]
theorem reads (os:Os) {H:Type} (enc:TypeId × Value→H):∃ places,DataW.whole enc Tryz.prog ((witN os).forCall (fun _ _=>0) ⟨#[],#[witSc],[]⟩).memory Tryz.f3.params.toList Rows.noteSignsSpec.vars false (#[witSc]:Array Value).toList 8 = some ([witScD],[],places):=
 ⟨[],by kernel_rfl⟩
set_option maxRecDepth 1000000 in
theorem wit_shape (os:Os):((witN os).forCall (fun _ _=>0) ⟨#[],#[witSc],[]⟩).variablesRefB Tryz.prog = true:=by kernel_rfl
set_option maxRecDepth 1000000 in
theorem wit_ready (os:Os):((((witN os).forCall (fun _ _=>0) ⟨#[],#[witSc],[]⟩).heap.toList.drop Tryz.prog.globals.size).take ((begin Tryz.prog (fun _ _=>0) default).world.heap.size - Tryz.prog.globals.size)) =
   (begin Tryz.prog (fun _ _=>0) default).world.heap.toList.drop Tryz.prog.globals.size:=by kernel_rfl
set_option maxRecDepth 100000 in
theorem lifted (walk:Walk) (os:Os) (started:os.Started) (H:Type) (enc:TypeId × Value→H) (F:Stop.Interp) :
  ReturnsInHanded {} Tryz.checked os 3 .any ((OpenSpec.ofChange Rows.noteSignsSpec).preRow enc Tryz.prog Tryz.f3 Rows.noteSignsRow.domain false Rows.noteSignsRow.laid) (((OpenSpec.ofChange Rows.noteSignsSpec).at F).post enc Tryz.prog Tryz.f3 false true false false):=by
 obtain ⟨places,hx⟩:=reads os enc
 refine returnsInHanded_of_row (C:=Tryz.checked) (s:=(OpenSpec.ofChange Rows.noteSignsSpec)) own started (by kernel_rfl) Tryz.func3
  (witness_row_atRef (enc:=enc) (C:=Tryz.checked) false (witN os) #[witSc] (witN_os os) (wit_shape os) (wit_ready os) (by kernel_rfl)
   (OpenSpec.preRow_of_cond 8 hx (by kernel_rfl) (fun k hk=>by cases hk) (by kernel_rfl) (laidEq ▸ witN_met os _))) ?_
 intro W base args ds gs before hval hW X1 X2 X3 hL X4 _
 exact contract walk H enc W base args ds gs before hval hW X4 hL X3
set_option maxHeartbeats 8000000 in
theorem facts:joinedFacts Tryz.prog 3 Tryz.f3 (OpenSpec.ofChange Rows.noteSignsSpec).bare Rows.noteSignsRow = true:=by
 unfold joinedFacts
 simp only [Bool.and_eq_true]
 repeat' apply And.intro
 all_goals (as_aux_lemma=>kernel_rfl)
set_option maxHeartbeats 8000000 in
theorem said (walk:Walk):Rows.NoteSignsSaid:=
 OpenClaim.holds_of_cond 3 Tryz.f3 rfl rfl rfl rfl rfl rfl rfl ⟨rfl,rfl,rfl,rfl,rfl⟩ rfl rfl rfl rfl rfl (by as_aux_lemma=>kernel_rfl) Tryz.func3 facts
  (of_decide_eq_true (by as_aux_lemma=>kernel_rfl)) (by as_aux_lemma=>unfold Func.isWrapper; first | (rw [if_pos (by decide +kernel)]; kernel_rfl) | (rw [if_neg (by decide +kernel)]; exact ⟨rfl,rfl⟩))
  (fun os started H enc _ F=>by rw [OpenClaim.pre_eq_preRow]; exact lifted walk os started H enc F)
set_option maxRecDepth 100000 in
theorem plain (f : FuncId) (fn : Func) (hf : Tryz.pinned.checked.prog.funcNamed "cartulary/cartularylaw24.NoteSigns" = some f) (hfn : Tryz.pinned.checked.prog.funcs[f]? = some fn) :
  true = Tryz.pinned.checked.prog.looks []∧∀ (j:Nat) t,fn.params[j]? = some t→Tryz.pinned.checked.prog.wantsStandIn t = false:=by
 obtain rfl : f = 3 := Option.some.inj ((show Tryz.prog.funcNamed "cartulary/cartularylaw24.NoteSigns" = some 3 by kernel_rfl).symm.trans hf) |>.symm
 obtain rfl:fn = Tryz.f3:=(Option.some.inj (Tryz.func3.symm.trans hfn)).symm
 refine ⟨by kernel_rfl,fun j t ht=>?_⟩
 rw [Tryz.params3] at ht
 have h2:t = 26:=by simpa using Array.mem_of_getElem? ht
 rcases h2 with rfl
 all_goals first | exact (show Tryz.prog.wantsStandIn 26 = false by kernel_rfl)
theorem card (walk:Walk):Rows.NoteSignsCardSaid:=
 Claim7.holds_tied_plain_at .later [] _ _ _ _ (said walk) (fun _ h=>by cases h) (by kernel_rfl) (fun _ h=>by cases h) noteSigns_row_tie rfl ⟨rfl,rfl⟩ (by kernel_rfl) rfl plain (by kernel_rfl)
end NoteSignsFrame
theorem noteSigns_card:Rows.NoteSignsCardSaid:=NoteSignsFrame.card fun S one two height ov OL w h1 h2 hh hOL hop hF=>signs_any S one two height ov OL h1 h2 hh hOL w hF hop
end Go.Proofs.YticlgcfodlcpcaaGreatDoor
