/-
  The claim's frame of TopForgedBatch: from the walk's contract to the card (Said).
-/
import Derived.Test.YthcccgbodceeeaaDoorFLaid
import Derived.Test.YthcccgbodceeeaaDoorFOpen
import Derived.Below
import Derived.ChangeMaps5
import Derived.ShutString
import Derived.DataShut
namespace Go.Proofs.YthcccgbodceeeaaDoor
open Go.ChangeShapes Go.WideShapes Go.ChangeAt Go.RowKit Go.ChangeMaps
namespace TopForgedBatchFrame
theorem laidEq : Rows.topForgedBatchRow.laid = LX := by rfl
/-- The contract of the walk. -/
def Walk : Prop := ∀ (S : Nat → Addr) (v : Value) (w : World), StretchArg w v → FW S w →
  Calls Tryd.prog 3 #[v] w fun e w' => e = .returned (.bool true) ∧ Below w.heap.size w w'
set_option maxRecDepth 100000 in
theorem contract (walk : Walk) (H : Type) (enc : TypeId × Value → H) (W : World) (base : Nat) (args : Array Value) (ds gs : List (DataW H)) (before : List MemPlace)
    (hval : ∀ (j : Nat) t v, Tryd.f3.params[j]? = some t → args[j]? = some v → Value.okWide Tryd.prog W .any base t v)
    (hW : DataW.Whole enc Tryd.prog Tryd.f3.params.toList Rows.topForgedBatchSpec.vars false W args.toList ds gs before) (_ : W.ShapedOpen Tryd.prog) (hL : laidMetH Tryd.prog Rows.topForgedBatchRow.laid W) (hz : (DataW.weightsEach Tryd.prog (Tryd.f3.params.toList ++ (OpenSpec.ofChange Rows.topForgedBatchSpec).bare.plain.varTypes Tryd.prog) (ds ++ gs)).all (· ≤ reachBytes) = true) :
    Calls Tryd.prog 3 args W fun e W' => ∃ v, e = .returned v ∧ Rows.topForgedBatchSpec.post enc Tryd.prog Tryd.f3 false true false false W args v W' := by
  have hW' := hW
  obtain ⟨p, q, hA0, hV, rfl, _, _⟩ := hW
  have hA : DataW.TrodAll enc Tryd.prog W 0 (fun _ => true) true Tryd.f3.params.toList args.toList ds p := hA0
  rw [Tryd.params3] at hA hval
  obtain ⟨v0, vs0, d0, ds0, p0, q0, hargs, rfl, rfl, h0, tr0⟩ := trodAll_cons hA
  obtain ⟨rfl, rfl, rfl⟩ := trodAll_nil tr0
  obtain rfl : args = #[v0] := by cases args; simp_all
  obtain ⟨rfl, rfl⟩ := trodVars_none hV
  have hk0 := h0
  clear hA0
  simp only [List.append_nil] at hW'
  obtain ⟨S, hB⟩ := fw_of_laid (laidEq ▸ hL)
  rw [Tryd.params3] at hz
  simp only [DataW.weightsEach, List.cons_append, List.nil_append, List.all_append, Bool.and_eq_true] at hz
  obtain ⟨hz0, _⟩ := hz
  have hArg := open_stretch (hval 0 26 v0 rfl rfl) h0 hz0
  refine (walk S v0 W hArg hB).mono fun e W' ⟨he, hb⟩ => ?_
  subst he
  have hlt0 : ∀ x ∈ p0, x.block < W.heap.size := fun x hx => by simpa using hW'.lt x (by simp [hx])
  exact ⟨_, rfl, _, _, _, [], _, [], hW', trodAll_mk1 (shut_bool Tryd.underlying4 _), trodAll_mk1 (Below.trod sLaidOut (by kernel_rfl) (of_decide_eq_true (by kernel_rfl)) hk0 hb hlt0), rfl, hb.frame _, fun h => by cases h⟩
theorem reads (os : Os) {H : Type} (enc : TypeId × Value → H) : ∃ places, DataW.whole enc Tryd.prog ((witX os).forCall (fun _ _ => 0) ⟨#[], #[.agg #[.slice none 0 0, .int .u64 0, .int .u64 0, .slice none 0 0, .slice none 0 0]], []⟩).memory Tryd.f3.params.toList Rows.topForgedBatchSpec.vars false (#[.agg #[.slice none 0 0, .int .u64 0, .int .u64 0, .slice none 0 0, .slice none 0 0]] : Array Value).toList 8 = some ([.agg [.nil, .lit (.int .u64 0), .lit (.int .u64 0), .nil, .nil]], [], places) :=
  ⟨[], by kernel_rfl⟩
set_option maxRecDepth 1000000 in
theorem wit_shape (os : Os) : ((witX os).forCall (fun _ _ => 0) ⟨#[], #[.agg #[.slice none 0 0, .int .u64 0, .int .u64 0, .slice none 0 0, .slice none 0 0]], []⟩).variablesRefB Tryd.prog = true := by kernel_rfl
set_option maxRecDepth 1000000 in
theorem wit_ready (os : Os) : ((((witX os).forCall (fun _ _ => 0) ⟨#[], #[.agg #[.slice none 0 0, .int .u64 0, .int .u64 0, .slice none 0 0, .slice none 0 0]], []⟩).heap.toList.drop Tryd.prog.globals.size).take ((begin Tryd.prog (fun _ _ => 0) default).world.heap.size - Tryd.prog.globals.size)) =
      (begin Tryd.prog (fun _ _ => 0) default).world.heap.toList.drop Tryd.prog.globals.size := by kernel_rfl
set_option maxRecDepth 100000 in
theorem lifted (walk : Walk) (os : Os) (started : os.Started) (H : Type) (enc : TypeId × Value → H) (F : Stop.Interp) :
    ReturnsInHanded {} Tryd.checked os 3 .any ((OpenSpec.ofChange Rows.topForgedBatchSpec).preRow enc Tryd.prog Tryd.f3 Rows.topForgedBatchRow.domain false Rows.topForgedBatchRow.laid) (((OpenSpec.ofChange Rows.topForgedBatchSpec).at F).post enc Tryd.prog Tryd.f3 false true false false) := by
  obtain ⟨places, hx⟩ := reads os enc
  refine returnsInHanded_of_row (C := Tryd.checked) (s := (OpenSpec.ofChange Rows.topForgedBatchSpec)) ownX started (by kernel_rfl) Tryd.func3
    (witness_row_atRef (enc := enc) (C := Tryd.checked) false (witX os) #[.agg #[.slice none 0 0, .int .u64 0, .int .u64 0, .slice none 0 0, .slice none 0 0]] (witX_os os) (wit_shape os) (wit_ready os) (by kernel_rfl)
      (OpenSpec.preRow_of_cond 8 hx (by kernel_rfl) (fun k hk => by cases hk) (by kernel_rfl) (laidEq ▸ witX_met os _))) ?_
  intro W base args ds gs before hval hW X1 X2 X3 hL X4 _
  exact contract walk H enc W base args ds gs before hval hW X4 hL X3
set_option maxHeartbeats 8000000 in
theorem facts : joinedFacts Tryd.prog 3 Tryd.f3 (OpenSpec.ofChange Rows.topForgedBatchSpec).bare Rows.topForgedBatchRow = true := by
  unfold joinedFacts
  simp only [Bool.and_eq_true]
  repeat' apply And.intro
  all_goals (as_aux_lemma => kernel_rfl)
set_option maxHeartbeats 8000000 in
theorem said (walk : Walk) : Rows.TopForgedBatchSaid :=
  OpenClaim.holds_of_cond 3 Tryd.f3 rfl rfl rfl rfl rfl rfl rfl ⟨rfl, rfl, rfl, rfl, rfl⟩ rfl rfl rfl rfl rfl (by as_aux_lemma => kernel_rfl) Tryd.func3 facts
    (of_decide_eq_true (by as_aux_lemma => kernel_rfl)) (by as_aux_lemma => unfold Func.isWrapper; first | (rw [if_pos (by decide +kernel)]; kernel_rfl) | (rw [if_neg (by decide +kernel)]; exact ⟨rfl, rfl⟩))
    (fun os started H enc _ F => by rw [OpenClaim.pre_eq_preRow]; exact lifted walk os started H enc F)
set_option maxRecDepth 100000 in
theorem plain (f : FuncId) (fn : Func) (hf : Tryd.pinned.checked.prog.funcNamed "cartulary/cartularytop.TopForgedBatch" = some f) (hfn : Tryd.pinned.checked.prog.funcs[f]? = some fn) :
    true = Tryd.pinned.checked.prog.looks [] ∧ ∀ (j : Nat) t, fn.params[j]? = some t → Tryd.pinned.checked.prog.wantsStandIn t = false := by
  obtain rfl : f = 3 := Option.some.inj ((show Tryd.prog.funcNamed "cartulary/cartularytop.TopForgedBatch" = some 3 by kernel_rfl).symm.trans hf) |>.symm
  obtain rfl : fn = Tryd.f3 := (Option.some.inj (Tryd.func3.symm.trans hfn)).symm
  refine ⟨by kernel_rfl, fun j t ht => ?_⟩
  rw [Tryd.params3] at ht
  have h2 : t = 26 := by simpa using Array.mem_of_getElem? ht
  rcases h2 with rfl
  all_goals first | exact (show Tryd.prog.wantsStandIn 26 = false by kernel_rfl)
theorem card (walk : Walk) : Rows.TopForgedBatchCardSaid :=
  Claim7.holds_tied_plain_at .later [] _ _ _ _ (said walk) (fun _ h => by cases h) (by kernel_rfl) (fun _ h => by cases h) topForgedBatch_row_tie rfl ⟨rfl, rfl⟩ (by kernel_rfl) rfl plain (by kernel_rfl)
end TopForgedBatchFrame
end Go.Proofs.YthcccgbodceeeaaDoor
