/- errors.As(err,&f),f a *api.Fault,by contracts: on nil,on a sentinel (false),on a *api.Fault (true,f is set). -/
import Derived.Test.YticlgcfodlcpcaaGreatDoorErr
namespace Go.Proofs.YticlgcfodlcpcaaGreatDoor
open Go.RowKit Go.Extern.Stop Go.Stop Go.Extern
theorem as_nil (t:Value) (w:World) :
  Calls Tryz.prog 82 #[.nilIface,t] w fun e w'=>e = .returned (.bool false)∧w = w':=by
 go_enter Tryz.func82,Tryz.ntmps82
 go_wp2
 go_ret
 exact ⟨rfl,rfl⟩
theorem Tryz.valueOfPP (t:Addr) (w:World):(ReflectliteValue.unpack (.iface 148 (.pointer (some t)))).run Tryz.prog w
  = .ok (.agg #[.pointer (some ⟨22,148,none⟩),.pointer (some ⟨w.heap.size,0,none⟩),.int .u64 150]) (w.alloc (.cells #[.pointer (some t)] 148)):=by kernel_rfl
theorem Tryz.typePP (a : Addr) (w : World) : (ReflectliteValue.methodAny (ReflectliteValue.valueError "reflectlite.Value.Type" 0) (fun t _ _ _ => ReflectliteType.toType t) #[.agg #[.pointer (some ⟨22, 148, none⟩), .pointer (some a), .int .u64 150]]).run Tryz.prog w
  = .ok (.iface 185 (.agg #[.pointer (some ⟨22,148,none⟩)])) w:=by kernel_rfl
theorem Tryz.methodKind (h : Value) (w : World) : (Go.method 381 185 (.agg #[h]) "Kind").run Tryz.prog w = .ok (181, h) w := by kernel_rfl
theorem Tryz.kindPP (w:World):((ReflectliteType.abiMethod fun t=>(fun a:Nat=>Value.int IntKind.u8 (a:Int)) <$> Rtype.kind t) #[.pointer (some ⟨22,148,none⟩)]).run Tryz.prog w = .ok (.int .u8 22) w:=by kernel_rfl
theorem Tryz.kindP (w:World):((ReflectliteType.abiMethod fun t=>(fun a:Nat=>Value.int IntKind.u8 (a:Int)) <$> Rtype.kind t) #[.pointer (some ⟨22,146,none⟩)]).run Tryz.prog w = .ok (.int .u8 22) w:=by kernel_rfl
theorem rlm (z:Sem Value) (f:TypeId→Addr→Nat→Nat→Sem Value) (v:Value) :
  ReflectliteValue.method z f #[v] = (do match ← ReflectliteValue.parts v with | none=>z | some (t,a,fl)=>f t a fl (fl % 32)):=rfl
theorem Tryz.partsPP (a:Addr) (w:World):(ReflectliteValue.parts (.agg #[.pointer (some ⟨22,148,none⟩),.pointer (some a),.int .u64 150])).run Tryz.prog w = .ok (some (148,a,150)) w:=by kernel_rfl
theorem Tryz.isNilPP (a p:Addr) (W:World) (ha:W.cell? a = some (.pointer (some p))) :
  (ReflectliteValue.method (ReflectliteValue.valueError "reflectlite.Value.IsNil" 0) ReflectliteValue.isNil #[.agg #[.pointer (some ⟨22, 148, none⟩), .pointer (some a), .int .u64 150]]).run Tryz.prog W = .ok (.bool false) W := by
 rw [rlm]
 simp only [Sem.run_bind,Tryz.partsPP,Result.andThen]
 simp [ReflectliteValue.isNil,loadVar,isAgg,underlying,Tryz.underlying148,ha,Result.andThen]
theorem Tryz.methodElem (h : Value) (w : World) : (Go.method 381 185 (.agg #[h]) "Elem").run Tryz.prog w = .ok (191, .agg #[h]) w := by kernel_rfl
theorem Tryz.methodImplements (h : Value) (w : World) : (Go.method 381 185 (.agg #[h]) "Implements").run Tryz.prog w = .ok (192, .agg #[h]) w := by kernel_rfl
theorem Tryz.methodAssignableTo (h : Value) (w : World) : (Go.method 381 185 (.agg #[h]) "AssignableTo").run Tryz.prog w = .ok (189, .agg #[h]) w := by kernel_rfl
theorem Tryz.elemPP (w:World):(ReflectliteType.method ReflectliteType.elem #[.agg #[.pointer (some ⟨22,148,none⟩)]]).run Tryz.prog w = .ok (.iface 185 (.agg #[.pointer (some ⟨22,146,none⟩)])) w:=by kernel_rfl
theorem Tryz.implementsP (w : World) : (ReflectliteType.relation "Implements" ReflectliteType.implements_ #[.agg #[.pointer (some ⟨22, 146, none⟩)], .iface 185 (.agg #[.pointer (some ⟨22, 34, none⟩)])]).run Tryz.prog w = .ok (.bool true) w := by kernel_rfl
theorem Tryz.assignableP (w : World) : (ReflectliteType.relation "AssignableTo" ReflectliteType.assignableTo #[.agg #[.pointer (some ⟨22, 146, none⟩)], .iface 185 (.agg #[.pointer (some ⟨22, 146, none⟩)])]).run Tryz.prog w = .ok (.bool true) w := by kernel_rfl
theorem Tryz.assignableE (w : World) : (ReflectliteType.relation "AssignableTo" ReflectliteType.assignableTo #[.agg #[.pointer (some ⟨22, 251, none⟩)], .iface 185 (.agg #[.pointer (some ⟨22, 146, none⟩)])]).run Tryz.prog w = .ok (.bool false) w := by kernel_rfl
theorem Tryz.valueOfP (e:Addr) (w:World):(ReflectliteValue.unpack (.iface 146 (.pointer (some e)))).run Tryz.prog w
  = .ok (.agg #[.pointer (some ⟨22,146,none⟩),.pointer (some ⟨w.heap.size,0,none⟩),.int .u64 150]) (w.alloc (.cells #[.pointer (some e)] 146)):=by kernel_rfl
theorem Tryz.elemOfPP (w:World):(Rtype.elem? 148).run Tryz.prog w = .ok (some 146) w:=by kernel_rfl
theorem Tryz.mkP (p:Addr) (w:World):(ReflectliteValue.mk 146 p ReflectliteValue.flagAddr).run Tryz.prog w = .ok (.agg #[.pointer (some ⟨22,146,none⟩),.pointer (some p),.int .u64 406]) w:=by kernel_rfl
theorem Tryz.elemV (a p:Addr) (W:World) (ha:W.cell? a = some (.pointer (some p))) :
  (ReflectliteValue.method (ReflectliteValue.valueError "reflectlite.Value.Elem" 0) ReflectliteValue.elem #[.agg #[.pointer (some ⟨22, 148, none⟩), .pointer (some a), .int .u64 150]]).run Tryz.prog W
   = .ok (.agg #[.pointer (some ⟨22,146,none⟩),.pointer (some p),.int .u64 406]) W:=by
 rw [rlm]
 simp only [Sem.run_bind,Tryz.partsPP,Result.andThen]
 simp [ReflectliteValue.elem,loadVar,isAgg,underlying,Tryz.underlying148,ha,Result.andThen,Tryz.elemOfPP,Tryz.mkP]
theorem rls (v x:Value):ReflectliteValue.set #[v,x] = (do
  let (some (dst,a,fl),some (src,b,_)):=(← ReflectliteValue.parts v,← ReflectliteValue.parts x)
   | unsupported (.noEntry "extern/(internal/reflectlite.Value).Set.zeroValue")
  if fl / ReflectliteValue.flagAddr % 2 == 0 then unsupported (.noEntry "extern/(internal/reflectlite.Value).Set.unaddressable")
  let val ← loadVar src b
  if ← Rtype.directlyAssignable dst src then storeVar dst a val
  else if ← Rtype.implements dst src then
   if (← Rtype.kind src) == 20 then
    match val with
    | .nilIface => unsupported (.noEntry "extern/reflectlite: a nil value of one interface type handed on as a value of another")
    | _=>storeVar dst a val
   else storeVar dst a (.iface src val)
  else panicString ("reflectlite.Set: value of type " ++ (← Rtype.spelt src) ++ " is not assignable to type " ++ (← Rtype.spelt dst))
  pure (.tuple #[])):=rfl
theorem Tryz.partsPa (a:Addr) (w:World):(ReflectliteValue.parts (.agg #[.pointer (some ⟨22,146,none⟩),.pointer (some a),.int .u64 406])).run Tryz.prog w = .ok (some (146,a,406)) w:=by kernel_rfl
theorem Tryz.partsP (a:Addr) (w:World):(ReflectliteValue.parts (.agg #[.pointer (some ⟨22,146,none⟩),.pointer (some a),.int .u64 150])).run Tryz.prog w = .ok (some (146,a,150)) w:=by kernel_rfl
theorem Tryz.directP (w:World):(Rtype.directlyAssignable 146 146).run Tryz.prog w = .ok true w:=by kernel_rfl
theorem Tryz.setP (ta b e:Addr) (old:Value) (W:World) (hb:W.cell? b = some (.pointer (some e))) (ht:W.cell? ta = some old) (hf:W.frozen? ta = false) :
  (ReflectliteValue.set #[.agg #[.pointer (some ⟨22,146,none⟩),.pointer (some ta),.int .u64 406],.agg #[.pointer (some ⟨22,146,none⟩),.pointer (some b),.int .u64 150]]).run Tryz.prog W
   = .ok (.tuple #[]) (W.setCell ta (.pointer (some e))):=by
 rw [rls]
 simp only [Sem.run_bind,Tryz.partsPa,Tryz.partsP,Result.andThen]
 simp [ReflectliteValue.flagAddr,loadVar,isAgg,underlying,Tryz.underlying146,hb,Result.andThen,Tryz.directP,storeVar,Value.cells,storeCells,Addr.add]
 rw [run_store Tryz.prog W ta _ _ (by rfl)]
 simp [ht,hf]
theorem Tryz.h_valueOf:∀ (args:Array Value) (w:World),(callFunc 116 args).run Tryz.prog w = (((fun args=>ReflectliteValue.unpack (args.getD 0 (.tuple #[]))) args).run Tryz.prog w).andThen fun v w'=>.ok (.value v) w':=
 @run_callFunc_extern Tryz.prog 116 _ (fun args=>ReflectliteValue.unpack (args.getD 0 (.tuple #[]))) Tryz.func116 (by kernel_rfl) (by kernel_rfl) (by kernel_rfl) (by kernel_rfl)
theorem Tryz.h_type : ∀ (args : Array Value) (w : World), (callFunc 117 args).run Tryz.prog w = (((ReflectliteValue.methodAny (ReflectliteValue.valueError "reflectlite.Value.Type" 0) (fun t _ _ _ => ReflectliteType.toType t)) args).run Tryz.prog w).andThen fun v w' => .ok (.value v) w' :=
 @run_callFunc_extern Tryz.prog 117 _ (ReflectliteValue.methodAny (ReflectliteValue.valueError "reflectlite.Value.Type" 0) (fun t _ _ _ => ReflectliteType.toType t)) Tryz.func117 (by kernel_rfl) (by kernel_rfl) (by kernel_rfl) (by kernel_rfl)
theorem Tryz.h_isNil : ∀ (args : Array Value) (w : World), (callFunc 118 args).run Tryz.prog w = (((ReflectliteValue.method (ReflectliteValue.valueError "reflectlite.Value.IsNil" 0) ReflectliteValue.isNil) args).run Tryz.prog w).andThen fun v w' => .ok (.value v) w' :=
 @run_callFunc_extern Tryz.prog 118 _ (ReflectliteValue.method (ReflectliteValue.valueError "reflectlite.Value.IsNil" 0) ReflectliteValue.isNil) Tryz.func118 (by kernel_rfl) (by kernel_rfl) (by kernel_rfl) (by kernel_rfl)
theorem Tryz.h_kind:∀ (args:Array Value) (w:World),(callFunc 181 args).run Tryz.prog w = (((ReflectliteType.abiMethod fun t=>do pure (.int .u8 (← Rtype.kind t))) args).run Tryz.prog w).andThen fun v w'=>.ok (.value v) w':=
 @run_callFunc_extern Tryz.prog 181 _ (ReflectliteType.abiMethod fun t=>do pure (.int .u8 (← Rtype.kind t))) Tryz.func181 (by kernel_rfl) (by kernel_rfl) (by kernel_rfl) (by kernel_rfl)
theorem Tryz.h_elemT:∀ (args:Array Value) (w:World),(callFunc 191 args).run Tryz.prog w = (((ReflectliteType.method ReflectliteType.elem) args).run Tryz.prog w).andThen fun v w'=>.ok (.value v) w':=
 @run_callFunc_extern Tryz.prog 191 _ (ReflectliteType.method ReflectliteType.elem) Tryz.func191 (by kernel_rfl) (by kernel_rfl) (by kernel_rfl) (by kernel_rfl)
theorem Tryz.h_implements : ∀ (args : Array Value) (w : World), (callFunc 192 args).run Tryz.prog w = (((ReflectliteType.relation "Implements" ReflectliteType.implements_) args).run Tryz.prog w).andThen fun v w' => .ok (.value v) w' :=
 @run_callFunc_extern Tryz.prog 192 _ (ReflectliteType.relation "Implements" ReflectliteType.implements_) Tryz.func192 (by kernel_rfl) (by kernel_rfl) (by kernel_rfl) (by kernel_rfl)
theorem Tryz.h_assignable : ∀ (args : Array Value) (w : World), (callFunc 189 args).run Tryz.prog w = (((ReflectliteType.relation "AssignableTo" ReflectliteType.assignableTo) args).run Tryz.prog w).andThen fun v w' => .ok (.value v) w' :=
 @run_callFunc_extern Tryz.prog 189 _ (ReflectliteType.relation "AssignableTo" ReflectliteType.assignableTo) Tryz.func189 (by kernel_rfl) (by kernel_rfl) (by kernel_rfl) (by kernel_rfl)
theorem Tryz.h_elemV : ∀ (args : Array Value) (w : World), (callFunc 143 args).run Tryz.prog w = (((ReflectliteValue.method (ReflectliteValue.valueError "reflectlite.Value.Elem" 0) ReflectliteValue.elem) args).run Tryz.prog w).andThen fun v w' => .ok (.value v) w' :=
 @run_callFunc_extern Tryz.prog 143 _ (ReflectliteValue.method (ReflectliteValue.valueError "reflectlite.Value.Elem" 0) ReflectliteValue.elem) Tryz.func143 (by kernel_rfl) (by kernel_rfl) (by kernel_rfl) (by kernel_rfl)
theorem Tryz.h_set:∀ (args:Array Value) (w:World),(callFunc 144 args).run Tryz.prog w = ((ReflectliteValue.set args).run Tryz.prog w).andThen fun v w'=>.ok (.value v) w':=
 @run_callFunc_extern Tryz.prog 144 _ ReflectliteValue.set Tryz.func144 (by kernel_rfl) (by kernel_rfl) (by kernel_rfl) (by kernel_rfl)
def asW (t:Addr) (w:World):World:=
 ((w.alloc (.cells #[.pointer (some t)] 148)).alloc (.cells #[.pointer (some ⟨22,148,none⟩),.pointer (some ⟨w.heap.size,0,none⟩),.int .u64 150] 205)).alloc (.cells #[.pointer (some ⟨22,148,none⟩),.pointer (some ⟨w.heap.size,0,none⟩),.int .u64 150] 205)
set_option maxHeartbeats 4000000 in
set_option maxRecDepth 100000 in
theorem as_fault (e t:Addr) (old:Value) (w:World) (hg:w.cell? ⟨19,0,none⟩ = some (.iface 185 (.agg #[.pointer (some ⟨22,34,none⟩)]))) (ht0:w.cell? t = some old) (hf0:w.frozen? t = false) :
  Calls Tryz.prog 82 #[.iface 146 (.pointer (some e)),.iface 148 (.pointer (some t))] w fun ev w'=>ev = .returned (.bool true)∧((asW t w).alloc (.cells #[.pointer (some e)] 146)).setCell t (.pointer (some e)) = w':=by
 unfold asW
 have h6:=Tryz.h_valueOf
 have h7:=Tryz.h_type
 have h8:=Tryz.h_isNil
 have h27:=Tryz.h_kind
 have h37:=Tryz.h_elemT
 have h38:=Tryz.h_implements
 have h10:=Tryz.h_typeOf
 have h35:=Tryz.h_assignable
 have h11:=Tryz.h_elemV
 have h12:=Tryz.h_set
 have tO:=Tryz.typeOfF
 have mA:=Tryz.methodAssignableTo
 have a25:=Tryz.assignableP
 have v25:=Tryz.valueOfP
 have f6:=Tryz.valueOfPP
 have f7:=Tryz.typePP
 have mK:=Tryz.methodKind
 have mE:=Tryz.methodElem
 have mI:=Tryz.methodImplements
 have k27:=Tryz.kindPP
 have k25:=Tryz.kindP
 have e27:=Tryz.elemPP
 have i25:=Tryz.implementsP
 have n8:=Tryz.isNilPP ⟨w.heap.size,0,none⟩ t ((w.alloc (.cells #[.pointer (some t)] 148)).alloc (.cells #[.pointer (some ⟨22,148,none⟩),.pointer (some ⟨w.heap.size,0,none⟩),.int .u64 150] 205)) (by simp)
 have hlt:19 < w.heap.size:=by
  rcases Nat.lt_or_ge 19 w.heap.size with h | h
  ·exact h
  ·simp [World.cell?,Array.getElem?_eq_none h] at hg
 have hg2:((w.alloc (.cells #[.pointer (some t)] 148)).alloc (.cells #[.pointer (some ⟨22,148,none⟩),.pointer (some ⟨w.heap.size,0,none⟩),.int .u64 150] 205)).cell? ⟨19,0,none⟩ = some (.iface 185 (.agg #[.pointer (some ⟨22,34,none⟩)])):=by
  rw [World.cell?_alloc_lt _ _ ⟨19,0,none⟩ (by simp; omega),World.cell?_alloc_lt _ _ ⟨19,0,none⟩ hlt]; exact hg
 have htl:t.block < w.heap.size:=by
  rcases Nat.lt_or_ge t.block w.heap.size with h | h
  ·exact h
  ·simp [World.cell?,Array.getElem?_eq_none h] at ht0
 have el:=Tryz.elemV ⟨w.heap.size,0,none⟩ t (((w.alloc (.cells #[.pointer (some t)] 148)).alloc (.cells #[.pointer (some ⟨22,148,none⟩),.pointer (some ⟨w.heap.size,0,none⟩),.int .u64 150] 205)).alloc (.cells #[.pointer (some ⟨22,148,none⟩),.pointer (some ⟨w.heap.size,0,none⟩),.int .u64 150] 205)) (by rw [World.cell?_alloc_lt _ _ ⟨w.heap.size,0,none⟩ (by simp; omega)]; simp)
 have st:=Tryz.setP t ⟨w.heap.size + 1 + 1 + 1,0,none⟩ e old ((((w.alloc (.cells #[.pointer (some t)] 148)).alloc (.cells #[.pointer (some ⟨22,148,none⟩),.pointer (some ⟨w.heap.size,0,none⟩),.int .u64 150] 205)).alloc (.cells #[.pointer (some ⟨22,148,none⟩),.pointer (some ⟨w.heap.size,0,none⟩),.int .u64 150] 205)).alloc (.cells #[.pointer (some e)] 146))
  (by rw [World.cell?_alloc_at _ _ _ _ (by simp)]; rfl)
  (by rw [World.cell?_alloc_lt _ _ t (by simp; omega),World.cell?_alloc_lt _ _ t (by simp; omega),World.cell?_alloc_lt _ _ t (by simp; omega),World.cell?_alloc_lt _ _ t htl]; exact ht0)
  (by rw [World.frozen?_alloc_old _ _ t (by simp; omega),World.frozen?_alloc_old _ _ t (by simp; omega),World.frozen?_alloc_old _ _ t (by simp; omega),World.frozen?_alloc_old _ _ t (Nat.ne_of_lt htl)]; exact hf0)
 go_enter Tryz.func82,Tryz.ntmps82
 go_wp2
 refine wp_loop_rounds 1 ?_
 rw [rounds_succ]
 go_wp2
 go_ret
 exact ⟨rfl,rfl⟩
set_option maxHeartbeats 4000000 in
set_option maxRecDepth 100000 in
theorem as_sent (a t:Addr) (w:World) (hg:w.cell? ⟨19,0,none⟩ = some (.iface 185 (.agg #[.pointer (some ⟨22,34,none⟩)]))) :
  Calls Tryz.prog 82 #[.iface 251 (.pointer (some a)),.iface 148 (.pointer (some t))] w fun ev w'=>ev = .returned (.bool false)∧asW t w = w':=by
 unfold asW
 have h6:=Tryz.h_valueOf
 have h7:=Tryz.h_type
 have h8:=Tryz.h_isNil
 have h27:=Tryz.h_kind
 have h37:=Tryz.h_elemT
 have h38:=Tryz.h_implements
 have h10:=Tryz.h_typeOf
 have h35:=Tryz.h_assignable
 have tO:=Tryz.isTypeOf
 have mA:=Tryz.methodAssignableTo
 have a25:=Tryz.assignableE
 have f6:=Tryz.valueOfPP
 have f7:=Tryz.typePP
 have mK:=Tryz.methodKind
 have mE:=Tryz.methodElem
 have mI:=Tryz.methodImplements
 have k27:=Tryz.kindPP
 have k25:=Tryz.kindP
 have e27:=Tryz.elemPP
 have i25:=Tryz.implementsP
 have nA:=Tryz.noAsE
 have uE:=Tryz.noUnwrapE
 have vE:=Tryz.noUnwrapsE
 have n8:=Tryz.isNilPP ⟨w.heap.size,0,none⟩ t ((w.alloc (.cells #[.pointer (some t)] 148)).alloc (.cells #[.pointer (some ⟨22,148,none⟩),.pointer (some ⟨w.heap.size,0,none⟩),.int .u64 150] 205)) (by simp)
 have hlt:19 < w.heap.size:=by
  rcases Nat.lt_or_ge 19 w.heap.size with h | h
  ·exact h
  ·simp [World.cell?,Array.getElem?_eq_none h] at hg
 have hg2:((w.alloc (.cells #[.pointer (some t)] 148)).alloc (.cells #[.pointer (some ⟨22,148,none⟩),.pointer (some ⟨w.heap.size,0,none⟩),.int .u64 150] 205)).cell? ⟨19,0,none⟩ = some (.iface 185 (.agg #[.pointer (some ⟨22,34,none⟩)])):=by
  rw [World.cell?_alloc_lt _ _ ⟨19,0,none⟩ (by simp; omega),World.cell?_alloc_lt _ _ ⟨19,0,none⟩ hlt]; exact hg
 go_enter Tryz.func82,Tryz.ntmps82
 go_wp2
 refine wp_loop_rounds 1 ?_
 rw [rounds_succ]
 go_wp2
 go_ret
 exact ⟨rfl,rfl⟩
end Go.Proofs.YticlgcfodlcpcaaGreatDoor
