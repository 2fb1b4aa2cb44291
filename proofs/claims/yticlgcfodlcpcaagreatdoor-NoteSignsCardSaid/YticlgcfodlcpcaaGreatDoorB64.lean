/- text.Base64 by its contract: the letters of the bytes. -/
import Derived.Test.YticlgcfodlcpcaaGreatDoorSame
import Derived.Test.YticlgcfodlcpcaaGreatDoorBld
import Derived.Test.YticlgcfodlcpcaaGreatDoorText
import Derived.Deep.QuietTactic
import Derived.BigQuiet
import Derived.StillTailTactics
import Derived.Deep.RegionHeld3
import Derived.Lib.IndexBytes
import Derived.Outline
namespace Go.Proofs.YticlgcfodlcpcaaGreatDoor
open Go.Lib (hid byteCells)
open Go.RowKit
theorem run_idx {P:Program} {T:TypeId} (hT:P.underlying T = some .string) (s:ByteArray) (n:Nat) (x:UInt8) (h:s.data.toList[n]? = some x) (i:Int) (hi:i = (n:Int)) (k:IntKind) (w:World) :
  (Instr.index T (.string s) (.int k i)).run P w = .ok (.int .u8 (x.toNat:Int)) w:=by
 subst hi
 have hi:n < s.size:=by
  have:=(List.getElem?_eq_some_iff.1 h).1
  simpa using this
 rw [run_index_string w T s k n hT,dif_pos ⟨by omega,by omega⟩]
 have:s[(n:Int).toNat]'(by simpa using hi) = x:=by
  have e:=(List.getElem?_eq_some_iff.1 h).2
  simp only [Array.getElem_toList] at e
  exact e
 rw [this]
theorem below_drewN {B:Nat} {a w:World} (h:Below B a w) (n:Nat):Below B a (w.drewN n):=⟨h.os,h.tape,h.output,h.size,h.block⟩
theorem isB_drewN {T e:TypeId} {B b:Nat} {bs:List Value} {w:World} (h:Lib.IsBuilder T e B b bs w) (n:Nat):Lib.IsBuilder T e B b bs (w.drewN n):=h
theorem size_drewN {k:Nat} {w:World} (h:k ≤ w.heap.size) (n:Nat):k ≤ (w.drewN n).heap.size:=h
theorem size_list (s:ByteArray):s.data.toList.length = s.size:=by
 rw [Array.length_toList]; rfl
theorem idx_let (w:World) (n:Nat) (h:n < 64) (i:Int) (hi:i = (n:Int)) (k:IntKind):(Instr.index 9 (.string ⟨#[65,66,67,68,69,70,71,72,73,74,75,76,77,78,79,80,81,82,83,84,85,86,87,88,89,90,97,98,99,100,101,102,103,104,105,106,107,108,109,110,111,112,113,114,115,116,117,118,119,120,121,122,48,49,50,51,52,53,54,55,56,57,43,47]⟩) (.int k i)).run Tryz.prog w = .ok (.int .u8 ((L64 n).toNat:Int)) w:=
 run_idx Tryz.underlying9 _ n _ (L64_get n h) i hi k w
def strLen:Value→Nat
 | .string s=>s.size
 | _=>0
theorem cells_snoc (l:List UInt8) (x:UInt8):byteCells l ++ [.int .u8 (x.toNat:Int)] = byteCells (l ++ [x]):=by simp [byteCells]
theorem ret_str {l m:List UInt8} (h:l = m):Ending.returned (.string ⟨l.toArray⟩) = Ending.returned (.string ⟨m.toArray⟩):=by rw [h]
def B64Rel (s:ByteArray) (w:World) (v:Value) (wr:World):Prop:=
 ∃ (t:ByteArray) (acc:List UInt8),v = .string t∧Lib.IsBuilder 141 5 w.heap.size w.heap.size (byteCells acc) wr∧Below w.heap.size w wr∧acc ++ b64 t.data.toList = b64 s.data.toList∧t.size ≤ s.size
set_option maxHeartbeats 4000000 in
set_option maxRecDepth 100000 in
theorem base64_any (s:ByteArray) (w:World) (hs:(s.size + 2) / 3 * 4 ≤ 140737488355328) :
  Calls Tryz.prog 36 #[.string s] w fun e w'=>e = .returned (.string ⟨(b64 s.data.toList).toArray⟩)∧Below w.heap.size w w':=by
 have HL:=hid (b64_length s.data.toList)
 go_enter Tryz.func36,Tryz.ntmps36
 go_wp2_with fail
 go_loopw [0] (fun v wr=>B64Rel s w v wr) (fun v _=>strLen v)
 case atStart=>exact ⟨s,[],rfl,fresh_builder w,(Below.refl _ _).alloc (Nat.le_refl _) _,rfl,Nat.le_refl _⟩
 case round=>
  obtain ⟨t,acc,rfl,hbld,hbel,hacc,hts⟩:=hrel
  have hlen:acc.length + (b64 t.data.toList).length = (s.size + 2) / 3 * 4:=by
   rw [← size_list,← HL.out,← hacc,List.length_append]
  have HA:=hid hacc
  clear hacc
  have hwsz:=hbel.size
  by_cases h3:3 ≤ t.size
  ·obtain ⟨a,b,c,r,htl⟩:∃ a b c r,t.data.toList = a :: b :: c :: r:=by
    have:=size_list t
    match hx:t.data.toList with
    | a :: b :: c :: r=>exact ⟨a,b,c,r,rfl⟩
    | [a,b]=>rw [hx] at this; simp at this; omega
    | [a]=>rw [hx] at this; simp at this; omega
    | []=>rw [hx] at this; simp at this; omega
   have x0:=fun w=>run_idx (P:=Tryz.prog) Tryz.underlying9 t 0 a (by rw [htl]; rfl) 0 rfl .i64 w
   have x1:=fun w=>run_idx (P:=Tryz.prog) Tryz.underlying9 t 1 b (by rw [htl]; rfl) 1 rfl .i64 w
   have x2:=fun w=>run_idx (P:=Tryz.prog) Tryz.underlying9 t 2 c (by rw [htl]; rfl) 2 rfl .i64 w
   have a1:=UInt8.toNat_lt a
   have b1:=UInt8.toNat_lt b
   have c1:=UInt8.toNat_lt c
   have ho:=or3 a b c
   have hN:=n3_lt a b c
   have hex:(t.extract 3 t.size).data.toList = r:=by rw [Lib.extract_to_end,htl]; rfl
   have hesz:(t.extract 3 t.size).size = t.size - 3:=by have e:=size_list (t.extract 3 t.size); rw [hex] at e; have e2:=size_list t; rw [htl] at e2; simp at e2; omega
   have hb4:acc.length + 4 ≤ 140737488355328:=by
    rw [b64_length,htl] at hlen; simp at hlen; omega
   have hfin:acc ++ [L64 (n3 a b c / 262144 % 64)] ++ [L64 (n3 a b c / 4096 % 64)] ++ [L64 (n3 a b c / 64 % 64)] ++ [L64 (n3 a b c % 64)] ++ b64 r = b64 s.data.toList:=by
    rw [← HA.out,htl]; simp [b64]
   have HF:=hid hfin
   have HX:=hid hex
   have HS:=hid hesz
   have HT:=hid htl
   clear hfin hex hesz htl hlen
   go_wp2_with fail
   go_quiet (fail)
   clear x0 x1 x2 ho
   generalize n3 a b c = N at *
   have d0:=fun w=>idx_let w (N / 262144 % 64) (by omega) ((N:Int) / 262144 % 64) (by omega) .u64
   have d1:=fun w=>idx_let w (N / 4096 % 64) (by omega) ((N:Int) / 4096 % 64) (by omega) .u64
   have d2:=fun w=>idx_let w (N / 64 % 64) (by omega) ((N:Int) / 64 % 64) (by omega) .u64
   have d3:=fun w=>idx_let w (N % 64) (by omega) ((N:Int) % 64) (by omega) .u64
   have e0:=and63i ((N:Int) / 262144) (by omega) (by omega)
   have e1:=and63i ((N:Int) / 4096) (by omega) (by omega)
   have e2:=and63i ((N:Int) / 64) (by omega) (by omega)
   have e3:=and63i (N:Int) (by omega) (by omega)
   have r0:∀ w,(Instr.index 142 (.agg #[.int .u64 18,.int .u64 12,.int .u64 6,.int .u64 0]) (.int .i64 0)).run Tryz.prog w = .ok (.int .u64 18) w:=fun _=>by kernel_rfl
   have r1:∀ w,(Instr.index 142 (.agg #[.int .u64 18,.int .u64 12,.int .u64 6,.int .u64 0]) (.int .i64 1)).run Tryz.prog w = .ok (.int .u64 12) w:=fun _=>by kernel_rfl
   have r2:∀ w,(Instr.index 142 (.agg #[.int .u64 18,.int .u64 12,.int .u64 6,.int .u64 0]) (.int .i64 2)).run Tryz.prog w = .ok (.int .u64 6) w:=fun _=>by kernel_rfl
   have r3:∀ w,(Instr.index 142 (.agg #[.int .u64 18,.int .u64 12,.int .u64 6,.int .u64 0]) (.int .i64 3)).run Tryz.prog w = .ok (.int .u64 0) w:=fun _=>by kernel_rfl
   go_wp2_with fail
   refine wp_loop_rounds 5 ?_
   rw [rounds_succ]
   go_wp2_with fail
   refine (writeByte_any _ _ _ _ _ (isB_drewN hbld _) (by rw [Lib.byteCells_length]; omega) (size_drewN hwsz _)).mono ?_
   rintro e w1 ⟨rfl,hb1,hl1⟩
   rw [cells_snoc] at hb1
   have hbel1:=(below_drewN hbel _).trans hl1
   clear hbel hl1 hbld
   go_wp2_with fail
   rw [rounds_succ]
   go_wp2_with fail
   refine (writeByte_any _ _ _ _ _ (.inr hb1) (by rw [Lib.byteCells_length,List.length_append]; simp only [List.length_cons,List.length_nil]; omega) hbel1.size).mono ?_
   rintro e w2 ⟨rfl,hb2,hl2⟩
   rw [cells_snoc] at hb2
   have hbel2:=hbel1.trans hl2
   clear hbel1 hl2 hb1
   go_wp2_with fail
   rw [rounds_succ]
   go_wp2_with fail
   refine (writeByte_any _ _ _ _ _ (.inr hb2) (by simp only [Lib.byteCells_length,List.length_append,List.length_cons,List.length_nil]; omega) hbel2.size).mono ?_
   rintro e w3 ⟨rfl,hb3,hl3⟩
   rw [cells_snoc] at hb3
   have hbel3:=hbel2.trans hl3
   clear hbel2 hl3 hb2
   go_wp2_with fail
   rw [rounds_succ]
   go_wp2_with fail
   refine (writeByte_any _ _ _ _ _ (.inr hb3) (by simp only [Lib.byteCells_length,List.length_append,List.length_cons,List.length_nil]; omega) hbel3.size).mono ?_
   rintro e w4 ⟨rfl,hb4',hl4⟩
   rw [cells_snoc] at hb4'
   have hbel4:=hbel3.trans hl4
   clear hbel3 hl4 hb3 r0 r1 r2 r3 d0 d1 d2 d3 e0 e1 e2 e3
   go_wp2_with fail
   rw [rounds_succ]
   go_wp2_with fail
   go_roundw
   case rel=>exact ⟨_,_,rfl,.inr hb4',hbel4,by rw [HX.out]; exact HF.out,by rw [HS.out]; omega⟩
   case measure=>simp [strLen,HS.out]; omega
  ·have hsz:=size_list t
   match htl:t.data.toList with
   | []=>
    rw [htl] at hsz
    have hs0:t.size = 0:=by simpa using hsz.symm
    have hfin:acc = b64 s.data.toList:=by rw [← HA.out,htl]; simp [b64]
    have HF:=hid hfin
    clear hsz htl hlen h3 hfin
    go_wp2_with fail
    refine (Tryz.Builder_String_any _ _ _ _ hbld hwsz).mono ?_
    rintro e w1 ⟨rfl,hl1⟩
    go_wp2_with fail
    go_ret
    exact ⟨ret_str HF.out,hbel.trans hl1⟩
   | [a]=>
    rw [htl] at hsz
    have hs0:t.size = 1:=by simpa using hsz.symm
    have hfin:acc ++ [L64 (a.toNat / 4)] ++ [L64 (a.toNat % 4 * 16)] ++ [61,61] = b64 s.data.toList:=by rw [← HA.out,htl]; simp [b64]
    have hb4:acc.length + 4 ≤ 140737488355328:=by
     rw [b64_length,htl] at hlen; simp at hlen; omega
    have x0:=fun w=>run_idx (P:=Tryz.prog) Tryz.underlying9 t 0 a (by rw [htl]; rfl) 0 rfl .i64 w
    have a1:=UInt8.toNat_lt a
    have e0:=u8_m3 a
    have d0:=fun w=>idx_let w (a.toNat / 4) (by omega) ((a.toNat:Int) / 4) (by omega) .u8
    have d1:=fun w=>idx_let w (a.toNat % 4 * 16) (by omega) ((a.toNat:Int) % 4 * 16) (by omega) .u8
    have HF:=hid hfin
    clear hsz htl hlen h3 hfin
    go_wp2_with fail
    refine (writeByte_any _ _ _ _ _ hbld (by rw [Lib.byteCells_length]; omega) hwsz).mono ?_
    rintro e w1 ⟨rfl,hb1,hl1⟩
    rw [cells_snoc] at hb1
    have hbel1:=hbel.trans hl1
    clear hbel hl1 hbld
    go_wp2_with fail
    refine (writeByte_any _ _ _ _ _ (.inr hb1) (by simp only [Lib.byteCells_length,List.length_append,List.length_cons,List.length_nil]; omega) hbel1.size).mono ?_
    rintro e w2 ⟨rfl,hb2,hl2⟩
    rw [cells_snoc] at hb2
    have hbel2:=hbel1.trans hl2
    clear hbel1 hl2 hb1
    go_wp2_with fail
    refine (writeString_any _ _ _ _ _ (.inr hb2) (by simp only [Lib.byteCells_length,List.length_append,List.length_cons,List.length_nil]; show _ + 2 ≤ _; omega) hbel2.size).mono ?_
    rintro e w3 ⟨rfl,hb3,hl3⟩
    rw [Lib.strCells_eq,show ∀ m:List UInt8,byteCells m ++ byteCells [61,61] = byteCells (m ++ [61,61]) from fun m=>by simp [byteCells]] at hb3
    have hbel3:=hbel2.trans hl3
    clear hbel2 hl3 hb2
    go_wp2_with fail
    refine (Tryz.Builder_String_any _ _ _ _ (.inr hb3) hbel3.size).mono ?_
    rintro e w4 ⟨rfl,hl4⟩
    go_wp2_with fail
    go_ret
    exact ⟨ret_str (by rw [← HF.out]; simp),hbel3.trans hl4⟩
   | [a,b]=>
    rw [htl] at hsz
    have hs0:t.size = 2:=by simpa using hsz.symm
    have hfin:acc ++ [L64 (a.toNat / 4)] ++ [L64 (a.toNat % 4 * 16 + b.toNat / 16)] ++ [L64 (b.toNat % 16 * 4)] ++ [61] = b64 s.data.toList:=by rw [← HA.out,htl]; simp [b64]
    have hb4:acc.length + 4 ≤ 140737488355328:=by
     rw [b64_length,htl] at hlen; simp at hlen; omega
    have x0:=fun w=>run_idx (P:=Tryz.prog) Tryz.underlying9 t 0 a (by rw [htl]; rfl) 0 rfl .i64 w
    have x1:=fun w=>run_idx (P:=Tryz.prog) Tryz.underlying9 t 1 b (by rw [htl]; rfl) 1 rfl .i64 w
    have a1:=UInt8.toNat_lt a
    have b1:=UInt8.toNat_lt b
    have e0:=u8_m3 a
    have e1:=u8_m15 b
    have e2:=u8_o4 a b
    have ew:IntKind.u8.wrap ((a.toNat:Int) % 4 * 16) = (a.toNat:Int) % 4 * 16:=by simp only [IntKind.wrap_u8]; omega
    have d0:=fun w=>idx_let w (a.toNat / 4) (by omega) ((a.toNat:Int) / 4) (by omega) .u8
    have d1:=fun w=>idx_let w (a.toNat % 4 * 16 + b.toNat / 16) (by omega) ((a.toNat:Int) % 4 * 16 + (b.toNat:Int) / 16) (by omega) .u8
    have d2:=fun w=>idx_let w (b.toNat % 16 * 4) (by omega) ((b.toNat:Int) % 16 * 4) (by omega) .u8
    have HF:=hid hfin
    clear hsz htl hlen h3 hfin
    go_wp2_with fail
    refine (writeByte_any _ _ _ _ _ hbld (by rw [Lib.byteCells_length]; omega) hwsz).mono ?_
    rintro e w1 ⟨rfl,hb1,hl1⟩
    rw [cells_snoc] at hb1
    have hbel1:=hbel.trans hl1
    clear hbel hl1 hbld
    go_wp2_with fail
    go_region_held3 (fun _=>True) (first | trivial) (first | (go_at_call 79; refine (writeByte_any w.heap.size w.heap.size (byteCells (acc ++ [L64 (a.toNat / 4)])) _ _ ?_ ?_ ?_).mono ?_; exact .inr hb1; (simp only [Lib.byteCells_length,List.length_append,List.length_cons,List.length_nil]; omega); exact hbel1.size; rintro e w2 ⟨rfl,hb2,hl2⟩))
    all_goals
     rw [cells_snoc] at hb2
     have hbel2:=(below_drewN hbel1 1).trans hl2
     clear hbel1 hl2 hb1
     go_wp2_with fail
     refine (writeByte_any _ _ _ _ _ (.inr hb2) (by simp only [Lib.byteCells_length,List.length_append,List.length_cons,List.length_nil]; omega) hbel2.size).mono ?_
     rintro e w3 ⟨rfl,hb3,hl3⟩
     rw [cells_snoc] at hb3
     have hbel3:=hbel2.trans hl3
     clear hbel2 hl3 hb2
     go_wp2_with fail
     refine (writeByte_any _ _ _ 61 _ (.inr hb3) (by simp only [Lib.byteCells_length,List.length_append,List.length_cons,List.length_nil]; omega) hbel3.size).mono ?_
     rintro e w4 ⟨rfl,hb4,hl4⟩
     rw [show (Value.int .u8 61) = Value.int .u8 (((61:UInt8).toNat:Nat):Int) from rfl,cells_snoc] at hb4
     have hbel4:=hbel3.trans hl4
     clear hbel3 hl4 hb3
     go_wp2_with fail
     refine (Tryz.Builder_String_any _ _ _ _ (.inr hb4) hbel4.size).mono ?_
     rintro e w5 ⟨rfl,hl5⟩
     go_wp2_with fail
     go_ret
     exact ⟨ret_str (by rw [← HF.out]; simp),hbel4.trans hl5⟩
   | _ :: _ :: _ :: _=>rw [htl] at hsz; simp at hsz; omega
end Go.Proofs.YticlgcfodlcpcaaGreatDoor
