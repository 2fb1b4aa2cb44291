/- errors.Is and errors.As,by contracts,as the statements call them: on nil,on a sentinel of errors.New's make,on a *api.Fault that wraps such a sentinel. -/
import Derived.Test.YticlgcfodlcpcaaGreatDoorChecked
import Derived.WalkKit
import Derived.LaidEql
import Derived.Stop.Asserts
import Derived.RowKitTokens
import Derived.WalkLawsBesides
import Derived.WalkSpells
namespace Go.Proofs.YticlgcfodlcpcaaGreatDoor
open Go.RowKit Go.Extern.Stop Go.Stop Go.Extern
theorem Tryz.isTypeOf (v:Value) (w:World):(Extern.ReflectliteType.typeOf #[.iface 251 v]).run Tryz.prog w = .ok (.iface 185 (.agg #[.pointer (some ⟨22,251,none⟩)])) w:=by kernel_rfl
theorem Tryz.typeOfF (v:Value) (w:World):(Extern.ReflectliteType.typeOf #[.iface 146 v]).run Tryz.prog w = .ok (.iface 185 (.agg #[.pointer (some ⟨22,146,none⟩)])) w:=by kernel_rfl
def cmpE : Array Value → Sem Value := Extern.ReflectliteType.method fun t => do Extern.Rtype.noPackHeld "Comparable" t; pure (.bool (← typeInfo t).comparable)
theorem Tryz.isComparable (w:World):(cmpE #[.agg #[.pointer (some ⟨22,251,none⟩)]]).run Tryz.prog w = .ok (.bool true) w:=by kernel_rfl
theorem Tryz.isMethodComparable (v : Value) (w : World) : (Go.method 381 185 v "Comparable").run Tryz.prog w = .ok (190, v) w := by kernel_rfl
theorem Tryz.isComp:(Tryz.prog.info? 251).map (·.comparable) = some true:=by kernel_rfl
theorem Tryz.isSize:(Tryz.prog.info? 269).map (·.size) = some 1:=by kernel_rfl
theorem Tryz.noIsE (v:Value) (xT:TypeId) (w:World):(Instr.typeAssert (.iface 251 v) xT 187 true).run Tryz.prog w = .ok (.tuple #[.nilIface,.bool false]) w:=run_typeAssert_lacksB Tryz.underlying187 (by kernel_rfl) (by kernel_rfl) v xT w
theorem Tryz.noUnwrapE (v:Value) (xT:TypeId) (w:World):(Instr.typeAssert (.iface 251 v) xT 190 true).run Tryz.prog w = .ok (.tuple #[.nilIface,.bool false]) w:=run_typeAssert_lacksB Tryz.underlying190 (by kernel_rfl) (by kernel_rfl) v xT w
theorem Tryz.noUnwrapsE (v:Value) (xT:TypeId) (w:World):(Instr.typeAssert (.iface 251 v) xT 192 true).run Tryz.prog w = .ok (.tuple #[.nilIface,.bool false]) w:=run_typeAssert_lacksB Tryz.underlying192 (by kernel_rfl) (by kernel_rfl) v xT w
theorem Tryz.noAsE (v:Value) (xT:TypeId) (w:World):(Instr.typeAssert (.iface 251 v) xT 234 true).run Tryz.prog w = .ok (.tuple #[.nilIface,.bool false]) w:=run_typeAssert_lacksB Tryz.underlying234 (by kernel_rfl) (by kernel_rfl) v xT w
theorem Tryz.noIsF (v:Value) (xT:TypeId) (w:World):(Instr.typeAssert (.iface 146 v) xT 187 true).run Tryz.prog w = .ok (.tuple #[.nilIface,.bool false]) w:=run_typeAssert_lacksB Tryz.underlying187 (by kernel_rfl) (by kernel_rfl) v xT w
theorem Tryz.hasUnwrapF (v:Value) (xT:TypeId) (w:World):(Instr.typeAssert (.iface 146 v) xT 190 true).run Tryz.prog w = .ok (.tuple #[.iface 146 v,.bool true]) w:=run_typeAssert_hasB Tryz.underlying190 (by kernel_rfl) v xT w
theorem Tryz.methodUnwrapF (v : Value) (w : World) : (Go.method 381 146 v "Unwrap").run Tryz.prog w = .ok (186, v) w := by kernel_rfl
theorem Tryz.h_typeOf:∀ (args:Array Value) (w:World),(callFunc 68 args).run Tryz.prog w = ((Extern.ReflectliteType.typeOf args).run Tryz.prog w).andThen fun v w'=>.ok (.value v) w':=
 @run_callFunc_extern Tryz.prog 68 _ Extern.ReflectliteType.typeOf Tryz.func68 (by kernel_rfl) (by kernel_rfl) (by kernel_rfl) (by kernel_rfl)
theorem Tryz.h_cmp:∀ (args:Array Value) (w:World),(callFunc 190 args).run Tryz.prog w = ((cmpE args).run Tryz.prog w).andThen fun v w'=>.ok (.value v) w':=
 @run_callFunc_extern Tryz.prog 190 _ cmpE Tryz.func190 (by kernel_rfl) (by kernel_rfl) (by kernel_rfl) (by kernel_rfl)
set_option maxRecDepth 100000 in
theorem is_same (a:Addr) (w:World) :
  Calls Tryz.prog 32 #[.iface 251 (.pointer (some a)),.iface 251 (.pointer (some a))] w fun e w'=>e = .returned (.bool true)∧w = w':=by
 obtain ⟨i,hi,hcmp⟩:=Option.map_eq_some_iff.1 Tryz.isComp
 obtain ⟨j,hj,hjs⟩:=Option.map_eq_some_iff.1 Tryz.isSize
 have h8:=Tryz.h_typeOf
 have h32:=Tryz.h_cmp
 have tT:=Tryz.isTypeOf
 have cT:=Tryz.isComparable
 have mR:=Tryz.isMethodComparable
 have heq:=run_eql_iface_ptr_same (P:=Tryz.prog) w a Tryz.underlying34 Tryz.underlying251 hi hcmp hj
 go_enter Tryz.func32,Tryz.ntmps32
 go_wp2
 refine wp_loop_rounds 1 ?_
 rw [rounds_succ]
 go_wp2
 go_ret
 exact ⟨rfl,rfl⟩
set_option maxRecDepth 100000 in
theorem is_other (a b:Addr) (ca cb:Array Value) (ta tb:TypeId) (w:World) (hne:a ≠ b) (ha:w.heap[a.block]? = some (.cells ca ta (0,0))) (hb:w.heap[b.block]? = some (.cells cb tb (0,0))) :
  Calls Tryz.prog 32 #[.iface 251 (.pointer (some a)),.iface 251 (.pointer (some b))] w fun e w'=>e = .returned (.bool false)∧w = w':=by
 obtain ⟨i,hi,hcmp⟩:=Option.map_eq_some_iff.1 Tryz.isComp
 obtain ⟨j,hj,hjs⟩:=Option.map_eq_some_iff.1 Tryz.isSize
 have h8:=Tryz.h_typeOf
 have h32:=Tryz.h_cmp
 have tT:=Tryz.isTypeOf
 have cT:=Tryz.isComparable
 have mR:=Tryz.isMethodComparable
 have nE:=Tryz.noIsE
 have uE:=Tryz.noUnwrapE
 have vE:=Tryz.noUnwrapsE
 have heq:=run_eql_iface_ptr_other (P:=Tryz.prog) w Tryz.underlying34 Tryz.underlying251 hi hcmp hj (by rw [hjs]; decide) hne ha hb
 clear ha hb
 go_enter Tryz.func32,Tryz.ntmps32
 go_wp2
 refine wp_loop_rounds 1 ?_
 rw [rounds_succ]
 go_wp2
 go_ret
 exact ⟨rfl,rfl⟩
set_option maxRecDepth 100000 in
theorem is_fault_same (p:Nat) (b:Addr) (w:World) (h1:w.cell? ⟨p,0,none⟩ = some (.iface 251 (.pointer (some b)))) :
  Calls Tryz.prog 32 #[.iface 146 (.pointer (some ⟨p,0,none⟩)),.iface 251 (.pointer (some b))] w fun e w'=>e = .returned (.bool true)∧w = w':=by
 obtain ⟨i,hi,hcmp⟩:=Option.map_eq_some_iff.1 Tryz.isComp
 obtain ⟨j,hj,hjs⟩:=Option.map_eq_some_iff.1 Tryz.isSize
 have h8:=Tryz.h_typeOf
 have h32:=Tryz.h_cmp
 have tT:=Tryz.isTypeOf
 have cT:=Tryz.isComparable
 have mR:=Tryz.isMethodComparable
 have nW:=Tryz.noIsF
 have uW:=Tryz.hasUnwrapF
 have mU:=Tryz.methodUnwrapF
 have heq:=run_eql_iface_ptr_same (P:=Tryz.prog) w b Tryz.underlying34 Tryz.underlying251 hi hcmp hj
 have hty:=run_eql_iface_types (P:=Tryz.prog) 146 251 (.pointer (some ⟨p,0,none⟩)) (.pointer (some b)) Tryz.underlying34 (by decide) w
 go_enter Tryz.func32,Tryz.ntmps32
 go_wp2
 refine wp_loop_rounds 2 ?_
 rw [rounds_succ]
 go_wp2
 rw [rounds_succ]
 go_wp2
 go_ret
 exact ⟨rfl,rfl⟩
set_option maxRecDepth 100000 in
theorem is_fault_other (p:Nat) (a b:Addr) (ca cb:Array Value) (ta tb:TypeId) (w:World) (h1:w.cell? ⟨p,0,none⟩ = some (.iface 251 (.pointer (some a)))) (hne:a ≠ b) (ha:w.heap[a.block]? = some (.cells ca ta (0,0))) (hb:w.heap[b.block]? = some (.cells cb tb (0,0))) :
  Calls Tryz.prog 32 #[.iface 146 (.pointer (some ⟨p,0,none⟩)),.iface 251 (.pointer (some b))] w fun e w'=>e = .returned (.bool false)∧w = w':=by
 obtain ⟨i,hi,hcmp⟩:=Option.map_eq_some_iff.1 Tryz.isComp
 obtain ⟨j,hj,hjs⟩:=Option.map_eq_some_iff.1 Tryz.isSize
 have h8:=Tryz.h_typeOf
 have h32:=Tryz.h_cmp
 have tT:=Tryz.isTypeOf
 have cT:=Tryz.isComparable
 have mR:=Tryz.isMethodComparable
 have nE:=Tryz.noIsE
 have uE:=Tryz.noUnwrapE
 have vE:=Tryz.noUnwrapsE
 have nW:=Tryz.noIsF
 have uW:=Tryz.hasUnwrapF
 have mU:=Tryz.methodUnwrapF
 have heq:=run_eql_iface_ptr_other (P:=Tryz.prog) w Tryz.underlying34 Tryz.underlying251 hi hcmp hj (by rw [hjs]; decide) hne ha hb
 have hty:=run_eql_iface_types (P:=Tryz.prog) 146 251 (.pointer (some ⟨p,0,none⟩)) (.pointer (some b)) Tryz.underlying34 (by decide) w
 clear ha hb
 go_enter Tryz.func32,Tryz.ntmps32
 go_wp2
 refine wp_loop_rounds 2 ?_
 rw [rounds_succ]
 go_wp2
 rw [rounds_succ]
 go_wp2
 go_ret
 exact ⟨rfl,rfl⟩
end Go.Proofs.YticlgcfodlcpcaaGreatDoor
