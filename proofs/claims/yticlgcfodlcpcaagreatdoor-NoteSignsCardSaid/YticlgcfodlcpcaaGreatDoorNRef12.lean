/- The document's notes (cartularyref24): odd,May,met by their contracts; where a text's last empty line stands: in plain Lean. -/
import Derived.Test.YticlgcfodlcpcaaGreatDoorNSign
import Derived.Test.YticlgcfodlcpcaaGreatDoorRefFH
import Derived.Test.YticlgcfodlcpcaaGreatDoorRefF64
import Derived.Test.YticlgcfodlcpcaaGreatDoorNRef3
import Derived.Test.YticlgcfodlcpcaaGreatDoorNRef8
namespace Go.Proofs.YticlgcfodlcpcaaGreatDoor
open Go.Lib (hid byteCells)
open Go.RowKit
theorem slice_from (s:List UInt8) (p:Nat) (hp:p ≤ s.length) (W:World):(Instr.slice 9 (.string ⟨s.toArray⟩) (some (.int .i64 (p:Int))) none none).run Tryz.prog W = .ok (.string ⟨(s.drop p).toArray⟩) W:=by
 have hsz:(⟨s.toArray⟩:ByteArray).size = s.length:=by show s.toArray.size = _; simp
 rw [run_slice_string_from_if W 9 ⟨s.toArray⟩ .i64 (p:Int) Tryz.underlying9,if_pos ⟨by omega,by rw [hsz]; omega⟩]
 refine congrArg (fun x=>Result.ok (Value.string x) W) (ByteArray.ext ?_)
 rw [ByteArray.data_extract,Int.toNat_natCast,hsz]
 simp
 exact List.take_of_length_le (by rw [List.length_drop]; exact Nat.le_refl _)
theorem slice_to (s:List UInt8) (p:Nat) (hp:p ≤ s.length) (W:World):(Instr.slice 9 (.string ⟨s.toArray⟩) none (some (.int .i64 (p:Int))) none).run Tryz.prog W = .ok (.string ⟨(s.take p).toArray⟩) W:=by
 have hsz:(⟨s.toArray⟩:ByteArray).size = s.length:=by show s.toArray.size = _; simp
 rw [run_slice_string_h W 9 ⟨s.toArray⟩ Tryz.underlying9 .i64 (p:Int) (by omega) (by rw [hsz]; omega)]
 refine congrArg (fun x=>Result.ok (Value.string x) W) (ByteArray.ext ?_)
 rw [ByteArray.data_extract,Int.toNat_natCast]
 simp
theorem slice_mid (s:List UInt8) (a b:Nat) (ha:a ≤ b) (hb:b ≤ s.length) (W:World):(Instr.slice 9 (.string ⟨s.toArray⟩) (some (.int .i64 (a:Int))) (some (.int .i64 (b:Int))) none).run Tryz.prog W = .ok (.string ⟨((s.drop a).take (b - a)).toArray⟩) W:=by
 have hsz:(⟨s.toArray⟩:ByteArray).size = s.length:=by show s.toArray.size = _; simp
 rw [run_slice_string W 9 ⟨s.toArray⟩ .i64 .i64 (a:Int) (b:Int) Tryz.underlying9 (by omega) (by omega) (by rw [hsz]; omega)]
 refine congrArg (fun x=>Result.ok (Value.string x) W) (ByteArray.ext ?_)
 rw [ByteArray.data_extract,Int.toNat_natCast,Int.toNat_natCast]
 simp [List.take_drop]
def OddR (s:List UInt8) (w:World) (iv:Value) (wr:World):Prop:=
 ∃ p f:Nat,iv = .int .i64 (p:Int)∧p ≤ s.length∧s.length ≤ p + f∧oddAt s.length 0 s = oddAt f p (s.drop p)∧Below w.heap.size w wr
theorem oddAt_nil (f p:Nat):oddAt f p [] = none:=by cases f <;> simp [oddAt]
theorem oddAt_yes {f p:Nat} {l:List UInt8} (hl:l ≠ []) (h:oddB (Lib.decodeL l).1 (Lib.decodeL l).2 = true):oddAt (f + 1) p l = some p:=by
 rw [oddAt,if_neg hl,if_pos h]
theorem oddAt_no {f p:Nat} {l:List UInt8} (hl:l ≠ []) (h:oddB (Lib.decodeL l).1 (Lib.decodeL l).2 = false):oddAt (f + 1) p l = oddAt f (p + (Lib.decodeL l).2) (l.drop (Lib.decodeL l).2):=by
 rw [oddAt,if_neg hl,if_neg (by rw [h]; simp)]
theorem oddAt_lt:∀ (f p:Nat) (l:List UInt8) (i:Nat),oddAt f p l = some i→i < p + l.length
 | 0,p,l,i,h=>by simp [oddAt] at h
 | f + 1,p,l,i,h=>by
  rw [oddAt] at h
  split at h
  ·cases h
  ·rename_i hl
   have:=List.length_pos_iff.2 hl
   split at h
   ·cases h
    omega
   ·by_cases hn:(Lib.decodeL l).2 ≤ l.length
    ·have:=oddAt_lt f _ _ i h
     rw [List.length_drop] at this
     omega
    ·rw [List.drop_of_length_le (by omega),oddAt_nil] at h
     cases h
set_option maxHeartbeats 4000000 in
set_option maxRecDepth 100000 in
theorem r24odd_any (s:List UInt8) (hs:s.length ≤ 1048576) (w:World) :
  Calls Tryz.prog 84 #[.string ⟨s.toArray⟩] w fun e w'=>e = .returned (.int .i64 (((oddAt s.length 0 s).getD s.length:Nat):Int))∧Below w.heap.size w w':=by
 obtain ⟨O,hO⟩:∃ O,oddAt s.length 0 s = O:=⟨_,rfl⟩
 have hsz:(⟨s.toArray⟩:ByteArray).size = s.length:=by show s.toArray.size = _; simp
 have HSZ:=hid hsz
 have s1:(s.length:Int) ≤ 1048576:=by omega
 have s0:(0:Int) ≤ (s.length:Int):=by omega
 have HS0:=hid (show OddR s w (.int .i64 ((0:Nat):Int)) w from ⟨0,s.length,rfl,Nat.zero_le _,by omega,by rw [List.drop_zero],Below.refl _ _⟩)
 have HO:=hid hO
 rw [hO]
 clear hO hsz hs
 go_enter Tryz.func84,Tryz.ntmps84
 go_wp2_with fail
 go_loopw [3] (fun iv wr=>OddR s w iv wr) (fun iv _=>s.length - (intOf iv).toNat)
 case atStart=>first | exact HS0.out | (have h:=HS0.out; simpa using h)
 case round=>
  obtain ⟨p,f,rfl,hp,hf,hodd,hbel⟩:=hrel
  rename World=>wr
  have HODD:=hid hodd
  have p0:(0:Int) ≤ (p:Int):=by omega
  clear hodd HS0
  by_cases hlt:p < s.length
  ·have p1:(p:Int) < (s.length:Int):=by omega
   obtain ⟨f',rfl⟩:∃ f',f = f' + 1:=⟨f - 1,by omega⟩
   have hdl:(s.drop p).length = s.length - p:=by rw [List.length_drop]
   have hdn:s.drop p ≠ []:=fun e=>by rw [e] at hdl; simp at hdl; omega
   have hsl:=slice_from s p hp
   have HFI:=hid (first_any ⟨(s.drop p).toArray⟩ wr hdn)
   rw [show (⟨(s.drop p).toArray⟩:ByteArray).data.toList = s.drop p from rfl] at HFI
   have hyes:=oddAt_yes (f:=f') (p:=p) hdn
   have hno:=oddAt_no (f:=f') (p:=p) hdn
   have hle:=firstOf_le (s.drop p) hdn
   rw [hdl] at hle
   have hfo:firstOf (s.drop p) = if (Lib.decodeL (s.drop p)).1 = 65533∧(Lib.decodeL (s.drop p)).2 = 1 then (0,0) else Lib.decodeL (s.drop p):=rfl
   have hwd:=Lib.decodeL_width (s.drop p)
   generalize firstOf (s.drop p) = pr at *
   obtain ⟨R,n⟩:=pr
   rw [List.drop_drop] at hno
   generalize hdp:Lib.decodeL (s.drop p) = dp at *
   obtain ⟨R',n'⟩:=dp
   simp only at hyes hno hle hfo HFI hwd
   have HYES:=hid hyes
   have HNO:=hid hno
   have HLE:=hid hle
   have HPF:=hid hf
   have HBE:=hid hbel
   have HPLT:=hid hlt
   clear hyes hno hdp hdn hle hf hbel hp hlt hdl
   by_cases hbad:R' = 65533∧n' = 1
   ·rw [if_pos hbad] at hfo
    obtain ⟨rfl,rfl⟩:=(Prod.mk.injEq ..).mp hfo
    have HOP:=hid (show O = some p by rw [← HO.out,HODD.out,HYES.out (by unfold oddB; simp [hbad.1,hbad.2])])
    clear hbad hfo hwd
    go_wp2_with (go_at_call 120; refine HFI.out.mono ?_; rintro e w1 ⟨rfl,q,rfl⟩)
    go_ret
    exact ⟨by rw [HOP.out]; rfl,below_drewN HBE.out _⟩
   ·rw [if_neg hbad] at hfo
    obtain ⟨rfl,rfl⟩:=(Prod.mk.injEq ..).mp hfo
    have hn0:R = 65533→n ≠ 1:=fun h1 h2=>hbad ⟨h1,h2⟩
    have hn1:1 ≤ n:=by
     rcases Nat.eq_zero_or_pos n with h | h
     ·omega
     ·exact h
    have n0:(0:Int) ≤ (n:Int):=by omega
    have n1:¬ (n:Int) = 0:=by omega
    have n1b:((n:Int) == 0) = false:=by rw [beq_eq_false_iff_ne]; exact n1
    have n2:(p:Int) + (n:Int) ≤ (s.length:Int):=by have:=HLE.out; have:=HPLT.out; omega
    have HCT:=hid (refControl_any (R:Int))
    obtain ⟨C,hC⟩:∃ C,controlB (R:Int) = C:=⟨_,rfl⟩
    rw [hC] at HCT
    have HN1:=hid hn1
    have hob:oddB (R:Int) n = (decide ((R:Int) ≠ 10) && C):=by
     unfold oddB
     rw [hC]
     have:(decide ((R:Int) = 65533) && decide (n = 1)) = false:=by
      rw [Bool.and_eq_false_iff]
      by_cases h:(R:Int) = 65533
      ·exact .inr (decide_eq_false (hn0 (by omega)))
      ·exact .inl (decide_eq_false h)
     rw [this,Bool.false_or]
    have HOB:=hid hob
    clear hbad hfo hwd hn0 hC hob hn1
    cases C with
    | true=>
     by_cases h10:R = 10
     ·have h10b:((R:Int) != 10) = false:=by rw [h10]; rfl
      have HNX:=hid (show O = oddAt f' (p + n) (s.drop (p + n)) by rw [← HO.out,HODD.out,HNO.out (by rw [HOB.out]; simp [h10])])
      clear h10
      go_wp2_with (first | (go_at_call 120; refine HFI.out.mono ?_; rintro e w1 ⟨rfl,q,rfl⟩) | (go_at_call 121; refine (HCT.out _).mono ?_; rintro e w2 ⟨rfl,rfl⟩))
      refine ⟨⟨p + n,f',by go_num,by have:=HLE.out; have:=HPLT.out; omega,by have:=HPF.out; have:=HN1.out; omega,by rw [HO.out,HNX.out],below_drewN HBE.out _⟩,by have:=HLE.out; have:=HPLT.out; have:=HN1.out; simp [intOf]; omega⟩
     ·have h10i:¬ (R:Int) = 10:=by omega
      have h10b:((R:Int) != 10) = true:=by rw [bne_iff_ne]; exact h10i
      have HOP:=hid (show O = some p by rw [← HO.out,HODD.out,HYES.out (by rw [HOB.out,decide_eq_true h10i]; rfl)])
      clear h10
      go_wp2_with (first | (go_at_call 120; refine HFI.out.mono ?_; rintro e w1 ⟨rfl,q,rfl⟩) | (go_at_call 121; refine (HCT.out _).mono ?_; rintro e w2 ⟨rfl,rfl⟩))
      go_ret
      exact ⟨by rw [HOP.out]; rfl,below_drewN HBE.out _⟩
    | false=>
     have HNX:=hid (show O = oddAt f' (p + n) (s.drop (p + n)) by rw [← HO.out,HODD.out,HNO.out (by rw [HOB.out]; simp)])
     go_wp2_with (first | (go_at_call 120; refine HFI.out.mono ?_; rintro e w1 ⟨rfl,q,rfl⟩) | (go_at_call 121; refine (HCT.out _).mono ?_; rintro e w2 ⟨rfl,rfl⟩))
     refine ⟨⟨p + n,f',by go_num,by have:=HLE.out; have:=HPLT.out; omega,by have:=HPF.out; have:=HN1.out; omega,by rw [HO.out,HNX.out],below_drewN HBE.out _⟩,by have:=HLE.out; have:=HPLT.out; have:=HN1.out; simp [intOf]; omega⟩
  ·obtain rfl:p = s.length:=by omega
   have p1:¬ (s.length:Int) < (s.length:Int):=by omega
   have HOP:=hid (show O = none by rw [← HO.out,HODD.out,List.drop_length,oddAt_nil])
   clear hlt hp hf
   go_wp2_with fail
   go_ret
   exact ⟨by rw [HOP.out]; rfl,hbel⟩
set_option maxHeartbeats 2000000 in
set_option maxRecDepth 100000 in
theorem r24met_any (L:Lines) (name:List UInt8) (v:Value) (w:World) (hL:LnIn w v L) (hn:L.length ≤ 1000) :
  Calls Tryz.prog 42 #[v,.string ⟨name.toArray⟩] w fun e w'=>e = .returned (.bool (L.any fun y=>decide (y.1 = name)))∧w = w':=by
 obtain ⟨lao,lcap,rfl,_,hlr⟩:=hL
 have HLR:=hid hlr
 have n1:(L.length:Int) ≤ 1000:=by omega
 clear hlr
 go_enter Tryz.func42,Tryz.ntmps42
 go_wp2_with fail
 go_loopw [5] (fun iv wr=>∃ i:Nat,iv = .int .i64 (i:Int)∧i ≤ L.length∧(∀ (j:Nat) x,j < i→L[j]? = some x→x.1 ≠ name)∧w = wr) (fun iv _=>L.length - (intOf iv).toNat)
 case atStart=>exact ⟨0,rfl,Nat.zero_le _,fun j x hj=>absurd hj (by omega),rfl⟩
 case round=>
  obtain ⟨i,rfl,hi,hno,rfl⟩:=hrel
  have HNO:=hid hno
  have i0:(0:Int) ≤ (i:Int):=by omega
  clear hno
  by_cases hlt:i < L.length
  ·have i1:(i:Int) < (L.length:Int):=by omega
   obtain ⟨x,hx⟩:∃ x,L[i]? = some x:=⟨_,List.getElem?_eq_getElem hlt⟩
   obtain ⟨g,hao,hr⟩:=HLR.out (fun e=>by rw [e] at hlt; simp at hlt)
   subst hao
   have hl2:=lcells_at L i x hx
   have c0:=(by have h:=hr _ _ hl2.1; rwa [Nat.zero_add] at h:w.cell? ⟨g,i * 2,none⟩ = some (.string ⟨x.1.toArray⟩))
   have HX:=hid hx
   have HLT:=hid hlt
   obtain ⟨nm,bs⟩:=x
   clear hr hl2 hx hlt hi
   have hq:=str_eqL nm name
   by_cases hnm:nm = name
   ·have hq2:((⟨nm.toArray⟩:ByteArray).toList == (⟨name.toArray⟩:ByteArray).toList) = true:=by rw [hq]; exact decide_eq_true hnm
    have hq3:(nm == name) = true:=by simpa using hnm
    have HA:=hid (any_yes HX.out hnm)
    clear hq hnm
    go_wp2_with fail
    go_ret
    exact ⟨by rw [HA.out]; rfl,rfl⟩
   ·have hq2:((⟨nm.toArray⟩:ByteArray).toList == (⟨name.toArray⟩:ByteArray).toList) = false:=by rw [hq]; exact decide_eq_false hnm
    have hq3:(nm == name) = false:=by simpa using hnm
    have HNM:=hid hnm
    clear hq hnm
    go_wp2_with fail
    refine ⟨⟨i + 1,by go_num,HLT.out,fun j y hj hy=>?_,by first | rfl | trivial⟩,by have:=HLT.out; simp [intOf]; omega⟩
    by_cases hji:j = i
    ·subst hji
     rw [HX.out] at hy
     cases hy
     exact HNM.out
    ·exact HNO.out j y (by omega) hy
  ·obtain rfl:i = L.length:=by omega
   have i1:¬ (L.length:Int) < (L.length:Int):=by omega
   have HANY:=hid (any_no HNO.out)
   clear hi hlt
   go_wp2_with fail
   go_ret
   exact ⟨by rw [HANY.out]; rfl,rfl⟩
set_option maxHeartbeats 2000000 in
set_option maxRecDepth 100000 in
theorem r24May_any (s:List UInt8) (hs:s.length ≤ 4611686018427386000) (w:World) :
  Calls Tryz.prog 41 #[.string ⟨s.toArray⟩] w fun e w'=>e = .returned (.bool (mayTxt s))∧Below w.heap.size w w':=by
 have s0:(0:Int) ≤ (s.length:Int):=by omega
 have s2:(s.length:Int) ≤ 4611686018427386000:=by omega
 obtain ⟨M,hM⟩:∃ M,mayTxt s = M:=⟨_,rfl⟩
 have HM:=hid hM
 rw [hM]
 clear hM
 by_cases h1:1 ≤ s.length
 ·have l1:(1:Int) ≤ (s.length:Int):=by omega
  by_cases h2:s.length ≤ 524288
  ·have l2:(s.length:Int) ≤ 524288:=by omega
   have HOD:=hid (r24odd_any s (by omega) w)
   obtain ⟨O,hO⟩:∃ O,oddAt s.length 0 s = O:=⟨_,rfl⟩
   rw [hO] at HOD
   have hlt:∀ i,oddAt s.length 0 s = some i→i < s.length:=fun i h=>by
    have:=oddAt_lt s.length 0 s i h
    omega
   rw [hO] at hlt
   obtain ⟨b,hb⟩:∃ b,s[s.length - 1]? = some b:=⟨_,List.getElem?_eq_getElem (by omega)⟩
   have hil:∀ W:World,(Instr.index 9 (.string ⟨s.toArray⟩) (.int .i64 ((s.length:Int) - 1))).run Tryz.prog W = .ok (.int .u8 (b.toNat:Int)) W:=fun W=>run_idx Tryz.underlying9 ⟨s.toArray⟩ (s.length - 1) b hb _ (by omega) .i64 W
   have hme:M = ((O.isNone) && decide (b.toNat = 10)):=by
    rw [← HM.out]
    unfold mayTxt
    rw [decide_eq_true (List.length_pos_iff.1 (by omega)),decide_eq_true h2,hO,List.getLast?_eq_getElem?,hb]
    simp only [Bool.true_and,Option.some.injEq]
    congr 1
    exact decide_eq_decide.2 (by rw [← UInt8.toNat_inj]; rfl)
   have HME:=hid hme
   clear hb hO hme h1 h2 hs
   cases O with
   | some i=>
    have h3:((((some i).getD s.length:Nat):Int) == (s.length:Int)) = false:=by
     rw [beq_eq_false_iff_ne]
     have:=hlt i rfl
     simp
     omega
    have h3b:((i:Int) == (s.length:Int)) = false:=by
     rw [beq_eq_false_iff_ne]
     have:=hlt i rfl
     omega
    clear hlt
    go_enter Tryz.func41,Tryz.ntmps41
    go_wp2_with (go_at_call 84; refine HOD.out.mono ?_; rintro e w1 ⟨rfl,hb1⟩)
    go_ret
    exact ⟨by rw [HME.out]; rfl,hb1⟩
   | none=>
    clear hlt
    by_cases h10:b.toNat = 10
    ·have f10:(b.toNat:Int) = 10:=by omega
     have HMT:=hid (show M = true by rw [HME.out]; simp [h10])
     clear h10
     go_enter Tryz.func41,Tryz.ntmps41
     go_wp2_with (go_at_call 84; refine HOD.out.mono ?_; rintro e w1 ⟨rfl,hb1⟩)
     go_ret
     exact ⟨by rw [HMT.out]; rfl,hb1⟩
    ·have f10:¬ (b.toNat:Int) = 10:=by omega
     have f10b:((b.toNat:Int) == 10) = false:=by rw [beq_eq_false_iff_ne]; exact f10
     have HMT:=hid (show M = false by rw [HME.out]; simp [h10])
     clear h10
     go_enter Tryz.func41,Tryz.ntmps41
     go_wp2_with (go_at_call 84; refine HOD.out.mono ?_; rintro e w1 ⟨rfl,hb1⟩)
     go_ret
     exact ⟨by rw [HMT.out]; rfl,hb1⟩
  ·have l2:¬ (s.length:Int) ≤ 524288:=by omega
   have HMT:=hid (show M = false by rw [← HM.out]; unfold mayTxt; rw [decide_eq_false h2]; simp)
   clear h1 h2 hs
   go_enter Tryz.func41,Tryz.ntmps41
   go_wp2_with fail
   go_ret
   exact ⟨by rw [HMT.out]; rfl,Below.refl _ _⟩
 ·have l1:¬ (1:Int) ≤ (s.length:Int):=by omega
  have HMT:=hid (show M = false by rw [← HM.out]; unfold mayTxt; rw [decide_eq_false (fun h=>by have:=List.length_pos_iff.2 h; omega)]; simp)
  clear h1 hs
  go_enter Tryz.func41,Tryz.ntmps41
  go_wp2_with fail
  go_ret
  exact ⟨by rw [HMT.out]; rfl,Below.refl _ _⟩
def blA (l:List UInt8) (k:Nat):Nat:=if Lib.index (l.drop k) [32] = -1 then l.length else k + (Lib.index (l.drop k) [32]).toNat
theorem index_cons (c:UInt8) (r:List UInt8) (d:UInt8):Lib.index (c :: r) [d] = if c = d then 0 else if Lib.index r [d] = -1 then -1 else Lib.index r [d] + 1:=by
 rw [Lib.index]
 by_cases h:c = d
 ·rw [if_pos h,if_pos (by simp [List.isPrefixOf,h])]
 ·rw [if_neg h,if_neg (by simp [List.isPrefixOf,Ne.symm h])]
  by_cases h2:Lib.index r [d] = -1
  ·rw [if_pos (by simpa using h2),if_pos h2]
  ·rw [if_neg (by simpa using h2),if_neg h2]
theorem blA_end (l:List UInt8):blA l l.length = l.length:=by
 unfold blA
 rw [List.drop_length]
 exact if_pos (by decide)
theorem blA_step (l:List UInt8) (k:Nat) (c:UInt8) (h:l[k]? = some c):blA l k = if c = 32 then k else blA l (k + 1):=by
 obtain ⟨hk,hc⟩:=List.getElem?_eq_some_iff.1 h
 have hd:l.drop k = c :: l.drop (k + 1):=by rw [List.drop_eq_getElem_cons hk,hc]
 have hg:=Lib.index_ge (l.drop (k + 1)) [32]
 unfold blA
 rw [hd,index_cons]
 by_cases h32:c = 32
 ·rw [if_pos h32,if_pos h32,if_neg (by decide)]
  simp
 ·rw [if_neg h32,if_neg h32]
  by_cases h2:Lib.index (l.drop (k + 1)) [32] = -1
  ·rw [if_pos h2,if_pos rfl,if_pos h2]
  ·rw [if_neg h2,if_neg (by omega),if_neg h2]
   omega
theorem blA_le (l:List UInt8):blA l 0 ≤ l.length:=by
 unfold blA
 rw [List.drop_zero]
 split
 ·exact Nat.le_refl _
 ·have hg:=Lib.index_ge l [32]
  obtain ⟨i,hi⟩:∃ i:Nat,Lib.index l [32] = (i:Int):=⟨(Lib.index l [32]).toNat,by omega⟩
  have:=(index_hit l 32 i hi).1
  rw [hi]
  simp
  omega
theorem blA_cut (l:List UInt8):Lib.cut l [32] = if blA l 0 = l.length then (l,[],false) else (l.take (blA l 0),l.drop (blA l 0 + 1),true):=by
 have hg:=Lib.index_ge l [32]
 unfold Lib.cut blA
 rw [List.drop_zero]
 by_cases h:Lib.index l [32] = -1
 ·rw [if_pos h,if_pos rfl,if_neg (by omega)]
 ·obtain ⟨i,hi⟩:∃ i:Nat,Lib.index l [32] = (i:Int):=⟨(Lib.index l [32]).toNat,by omega⟩
  have hl:=(index_hit l 32 i hi).1
  rw [if_neg h,hi,if_pos (by omega),if_neg (by simp; omega)]
  simp
def sigV:Option (List UInt8 × List UInt8)→Value
 | none=>.tuple #[.agg #[.string ⟨#[]⟩,.string ⟨#[]⟩],.bool false]
 | some x=>.tuple #[.agg #[.string ⟨x.1.toArray⟩,.string ⟨x.2.toArray⟩],.bool true]
theorem lineInfo2:(Tryz.prog.info? 156).map (·.size) = some 2:=by kernel_rfl
def lineRow (w:World) (g:Nat) (a b:List UInt8):Prop:=w.heap[g]? = some (.cells #[.string ⟨a.toArray⟩,.string ⟨b.toArray⟩] 156 (0,0))
theorem lineRow.below {w w':World} {g:Nat} {a b:List UInt8} (h:lineRow w g a b) (hb:Below w.heap.size w w'):lineRow w' g a b:=below_heap hb h
theorem line_set {w:World} {g:Nat} {a b:List UInt8} (h:lineRow w g a b) (c d:List UInt8):lineRow ((w.setCell ⟨g,0,none⟩ (.string ⟨c.toArray⟩)).setCell ⟨g,1,none⟩ (.string ⟨d.toArray⟩)) g c d:=by
 have h1:=heap_setCell_same w g 0 _ _ (.string ⟨c.toArray⟩) h
 exact heap_setCell_same _ g 1 _ _ (.string ⟨d.toArray⟩) h1
theorem lineRow.cells {w:World} {g:Nat} {a b:List UInt8} (h:lineRow w g a b):w.cell? ⟨g,0,none⟩ = some (.string ⟨a.toArray⟩)∧w.cell? ⟨g,1,none⟩ = some (.string ⟨b.toArray⟩)∧w.frozen? ⟨g,0,none⟩ = false∧w.frozen? ⟨g,1,none⟩ = false:=
 ⟨cell_of h 0 rfl,cell_of h 1 rfl,frozen_row h 0,frozen_row h 1⟩
theorem ret_sig {fn:Func} {u p:Tmp} (hf:fn.results = #[.cell p 156,.tmp u]) {Q:Ending→World→Prop} {a:Act} {w:World} (g:Nat) (x y:List UInt8) (b:Bool)
  (hg:lineRow w g x y) (hd:a.defers = []) (hp:a.tmps.getD p undef = .pointer (some ⟨g,0,none⟩)) (hv:a.tmps.getD u undef = .bool b) (hQ:Q (.returned (.tuple #[.agg #[.string ⟨x.toArray⟩,.string ⟨y.toArray⟩],.bool b])) w):bodyPost Tryz.prog fn Q .ret a w:=by
 refine bodyPost_ret (v:=.tuple #[.agg #[.string ⟨x.toArray⟩,.string ⟨y.toArray⟩],.bool b]) ?_ hd hQ
 exact results_row_tmp hf _ w g 156 _ (0,0) _ _ hv hp hg Tryz.underlying156 rfl (by rw [lineInfo2]; rfl)
def BlR (l:List UInt8) (w:World) (av iv:Value) (wr:World):Prop:=
 ∃ k:Nat,k ≤ l.length∧iv = .int .i64 ((k:Int) - 1)∧av = .int .i64 ((blA l k:Nat):Int)∧w = wr
set_option maxHeartbeats 8000000 in
set_option maxRecDepth 100000 in
theorem r24sig_any (s:List UInt8) (hs:s.length ≤ 1048576) (w:World) :
  Calls Tryz.prog 86 #[.string ⟨s.toArray⟩] w fun e w'=>e = .returned (sigV (readLn s))∧Below w.heap.size w w':=by
 obtain ⟨R,hR⟩:∃ R,readLn s = R:=⟨_,rfl⟩
 have HR:=hid hR
 rw [hR]
 clear hR
 have s0:(0:Int) ≤ (s.length:Int):=by omega
 have s1:(s.length:Int) ≤ 1048576:=by omega
 have hl0:=heap_one w (.cells #[.string ⟨#[]⟩,.string ⟨#[]⟩] 156 (0,0))
 have hb0:=below_one w (.cells #[.string ⟨#[]⟩,.string ⟨#[]⟩] 156 (0,0))
 have HL0:=hid (show lineRow (w.alloc (.cells #[.string ⟨#[]⟩,.string ⟨#[]⟩] 156 (0,0))) w.heap.size [] [] from hl0)
 have HB0:=hid hb0
 clear hl0 hb0
 by_cases h4:s.length < 4
 ·have l4:(s.length:Int) < 4:=by omega
  have HN:=hid (show R = none by
   rw [← HR.out]
   unfold readLn
   rw [if_neg]
   rintro ⟨h,_⟩
   unfold Lib.hasPrefix at h
   have:=(List.isPrefixOf_iff_prefix.1 h).length_le
   simp [dashL] at this
   omega)
  clear h4 hs
  go_enter Tryz.func86,Tryz.ntmps86
  go_upto_region 1 with fail
  generalize w.alloc (.cells #[.string ⟨#[]⟩,.string ⟨#[]⟩] 156 (0,0)) = w1 at *
  obtain ⟨c0,c1,f0,f1⟩:=HL0.out.cells
  go_wp2_with fail
  refine ret_sig rfl w.heap.size [] [] false (line_set HL0.out [] []) rfl rfl rfl ⟨by rw [HN.out]; rfl,?_⟩
  exact (HB0.out.setCell (p:=⟨w.heap.size,0,none⟩) (Nat.le_refl _) _).setCell (p:=⟨w.heap.size,1,none⟩) (Nat.le_refl _) _
 ·have l4:¬ (s.length:Int) < 4:=by omega
  have hsl:∀ W:World,(Instr.slice 9 (.string ⟨s.toArray⟩) none (some (.int .i64 4)) none).run Tryz.prog W = .ok (.string ⟨(s.take 4).toArray⟩) W:=slice_to s 4 (by omega)
  have hq:=str_eqL (s.take 4) dashL
  by_cases hpre:s.take 4 = dashL
  ·have hq2:((⟨(s.take 4).toArray⟩:ByteArray).toList == (⟨#[226,128,148,32]⟩:ByteArray).toList) = true:=by
    have:(⟨#[226,128,148,32]⟩:ByteArray) = ⟨dashL.toArray⟩:=rfl
    rw [this,hq]
    exact decide_eq_true hpre
   have hq3:((⟨(s.take 4).toArray⟩:ByteArray).toList != (⟨#[226,128,148,32]⟩:ByteArray).toList) = false:=by rw [bne,hq2]; rfl
   have hq4:(s.take 4 == [226,128,148,32]) = true:=by rw [beq_iff_eq]; exact hpre
   have hq5:(s.take 4 != [226,128,148,32]) = false:=by rw [bne,hq4]; rfl
   have hq6:s.take 4 = [226,128,148,32]:=hpre
   have hsf:∀ W:World,(Instr.slice 9 (.string ⟨s.toArray⟩) (some (.int .i64 4)) none none).run Tryz.prog W = .ok (.string ⟨(s.drop 4).toArray⟩) W:=slice_from s 4 (by omega)
   have hhp:Lib.hasPrefix s dashL = true:=by
    unfold Lib.hasPrefix
    rw [List.isPrefixOf_iff_prefix]
    exact ⟨s.drop 4,by rw [← hpre]; exact List.take_append_drop 4 s⟩
   have htp:Lib.trimPrefix s dashL = s.drop 4:=by
    unfold Lib.trimPrefix
    rw [if_pos hhp]
    rfl
   have hd4:(s.drop 4).length = s.length - 4:=List.length_drop ..
   have hrl:R = if (Lib.cut (s.drop 4) [32]).2.2 = true∧nameOf (Lib.cut (s.drop 4) [32]).1 = true∧(fromB64 (Lib.cut (s.drop 4) [32]).2.1).2.1 = 0∧(fromB64 (Lib.cut (s.drop 4) [32]).2.1).1 ≠ []∧(fromB64 (Lib.cut (s.drop 4) [32]).2.1).1.length ≤ 4096 then some ((Lib.cut (s.drop 4) [32]).1,(fromB64 (Lib.cut (s.drop 4) [32]).2.1).1) else none:=by
    rw [← HR.out]
    unfold readLn
    rw [htp]
    simp only [hhp,true_and]
   rw [blA_cut] at hrl
   obtain ⟨l,hl⟩:∃ l,s.drop 4 = l:=⟨_,rfl⟩
   rw [hl] at hrl hsf hd4
   have HRL:=hid hrl
   have HDL:=hid (show l.length ≤ 1048576 by omega)
   have m0:(0:Int) ≤ (l.length:Int):=by omega
   have m1:(l.length:Int) ≤ 1048576:=by have:=HDL.out; omega
   clear hrl hhp htp hl h4 hs hq hpre hd4
   go_enter Tryz.func86,Tryz.ntmps86
   go_upto_region 1 with fail
   generalize w.alloc (.cells #[.string ⟨#[]⟩,.string ⟨#[]⟩] 156 (0,0)) = w1 at *
   go_wp2_with fail
   clear hsl hsf hq2 hq3 hq4 hq5 hq6
   go_loopw [5,6] (fun av iv wr=>BlR l w1 av iv wr) (fun _ iv _=>(intOf iv + 1).toNat)
   case atStart=>exact ⟨l.length,Nat.le_refl _,rfl,by rw [blA_end],rfl⟩
   case round=>
    obtain ⟨k,hk,rfl,rfl,rfl⟩:=hrel
    by_cases h0:k = 0
    ·subst h0
     have j1:¬ (0:Int) ≤ ((0:Nat):Int) - 1:=by decide
     have hle:=blA_le l
     obtain ⟨at',hat⟩:∃ a,blA l 0 = a:=⟨_,rfl⟩
     rw [hat] at HRL hle ⊢
     have HLE:=hid hle
     clear hat hk
     by_cases hend:at' = l.length
     ·have e1:(at':Int) = (l.length:Int):=by omega
      have e1b:((at':Int) == (l.length:Int)) = true:=by rw [beq_iff_eq]; exact e1
      have HN:=hid (show R = none by rw [HRL.out,if_pos hend,if_neg (by simp)])
      obtain ⟨c0,c1,f0,f1⟩:=HL0.out.cells
      clear hend hle
      go_wp2_with fail
      refine ret_sig rfl w.heap.size [] [] false (line_set HL0.out [] []) rfl rfl rfl ⟨by rw [HN.out]; rfl,?_⟩
      exact (HB0.out.setCell (p:=⟨w.heap.size,0,none⟩) (Nat.le_refl _) _).setCell (p:=⟨w.heap.size,1,none⟩) (Nat.le_refl _) _
     ·have e1:¬ (at':Int) = (l.length:Int):=by omega
      have e1b:((at':Int) == (l.length:Int)) = false:=by rw [beq_eq_false_iff_ne]; exact e1
      have a0:(0:Int) ≤ (at':Int):=by omega
      have a1:(at':Int) < (l.length:Int):=by omega
      have hsf:=slice_from l (at' + 1) (by omega)
      have hst:=slice_to l at' (by omega)
      rw [show ((at' + 1:Nat):Int) = (at':Int) + 1 by omega] at hsf
      have HF64:=hid (refFromB64_any ⟨(l.drop (at' + 1)).toArray⟩ w1 (by show (l.drop (at' + 1)).toArray.size ≤ _; have:=HDL.out; simp; omega))
      rw [show (⟨(l.drop (at' + 1)).toArray⟩:ByteArray).data.toList = l.drop (at' + 1) from rfl] at HF64
      have hRR:R = if nameOf (l.take at') = true∧(fromB64 (l.drop (at' + 1))).2.1 = 0∧(fromB64 (l.drop (at' + 1))).1 ≠ []∧(fromB64 (l.drop (at' + 1))).1.length ≤ 4096 then some (l.take at',(fromB64 (l.drop (at' + 1))).1) else none:=by
       rw [HRL.out,if_neg hend]
       simp only [true_and]
      generalize fromB64 (l.drop (at' + 1)) = F at *
      obtain ⟨B,c,p⟩:=F
      simp only at hRR
      have HNM:=hid (refName_any ⟨(l.take at').toArray⟩)
      obtain ⟨T,hT⟩:∃ T,l.take at' = T:=⟨_,rfl⟩
      rw [hT] at hRR hst HNM
      rw [show (⟨T.toArray⟩:ByteArray).data.toList = T from rfl] at HNM
      obtain ⟨NA,hNA⟩:∃ N,nameOf T = N:=⟨_,rfl⟩
      rw [hNA] at hRR HNM
      have HRR:=hid hRR
      clear hRR hT hNA hend hle
      unfold told2 at HF64
      simp only at HF64
      by_cases hc:c = 0
      ·subst hc
       have hz:fz 0 p = 0:=rfl
       rw [hz] at HF64
       by_cases hB:B = []
       ·subst hB
        have HN:=hid (show R = none by rw [HRR.out,if_neg (by simp)])
        go_upto_region 14 with (go_at_call 123; refine HF64.out.mono ?_; rintro e w2 ⟨rfl,hb2⟩; have HB2:=hid (HB0.out.trans (hb2.mono HB0.out.size)); have HL2:=hid (HL0.out.below hb2); clear hb2)
        have hbA:=below_one w2 (.cells #[.int .i64 0,.int .i64 0] 38 (0,0))
        have HL3:=hid (HL2.out.below hbA)
        have HB3:=hid (HB2.out.trans (hbA.mono HB2.out.size))
        have hfA:faultRow (w2.alloc (.cells #[.int .i64 0,.int .i64 0] 38)) w2.heap.size 0 0:=heap_one w2 _
        obtain ⟨e0,e1,_,_⟩:=hfA.cells
        clear hbA hfA
        generalize w2.alloc (.cells #[.int .i64 0,.int .i64 0] 38) = w3 at *
        generalize w2.heap.size = xb at *
        obtain ⟨c0,c1,f0,f1⟩:=HL3.out.cells
        go_wp2_with fail
        refine ret_sig rfl w.heap.size [] [] false (line_set HL3.out [] []) rfl rfl rfl ⟨by rw [HN.out]; rfl,?_⟩
        exact (HB3.out.setCell (p:=⟨w.heap.size,0,none⟩) (Nat.le_refl _) _).setCell (p:=⟨w.heap.size,1,none⟩) (Nat.le_refl _) _
       ·have hBl:=List.length_pos_iff.2 hB
        have b1:¬ (B.length:Int) < 1:=by omega
        by_cases hbig:B.length ≤ 4096
        ·have b2:¬ (4096:Int) < (B.length:Int):=by omega
         cases NA with
         | true=>
          have HN:=hid (show R = some (T,B) by rw [HRR.out,if_pos ⟨rfl,rfl,hB,hbig⟩])
          clear hB hBl hbig
          go_upto_region 14 with (go_at_call 123; refine HF64.out.mono ?_; rintro e w2 ⟨rfl,hb2⟩; have HB2:=hid (HB0.out.trans (hb2.mono HB0.out.size)); have HL2:=hid (HL0.out.below hb2); clear hb2)
          have hbA:=below_one w2 (.cells #[.int .i64 0,.int .i64 0] 38 (0,0))
          have HL3:=hid (HL2.out.below hbA)
          have HB3:=hid (HB2.out.trans (hbA.mono HB2.out.size))
          have hfA:faultRow (w2.alloc (.cells #[.int .i64 0,.int .i64 0] 38)) w2.heap.size 0 0:=heap_one w2 _
          obtain ⟨e0,e1,_,_⟩:=hfA.cells
          clear hbA hfA
          generalize w2.alloc (.cells #[.int .i64 0,.int .i64 0] 38) = w3 at *
          generalize w2.heap.size = xb at *
          obtain ⟨c0,c1,f0,f1⟩:=HL3.out.cells
          go_wp2_with (go_at_call 39; refine (HNM.out _).mono ?_; rintro e w4 ⟨rfl,hb4⟩; have HL4:=hid (HL3.out.below hb4); have HB4:=hid (HB3.out.trans (hb4.mono HB3.out.size)); clear hb4 c0 c1 f0 f1; obtain ⟨c0,c1,f0,f1⟩:=HL4.out.cells)
          refine ret_sig rfl w.heap.size T B true (line_set HL4.out T B) rfl rfl rfl ⟨by rw [HN.out]; rfl,?_⟩
          exact (HB4.out.setCell (p:=⟨w.heap.size,0,none⟩) (Nat.le_refl _) _).setCell (p:=⟨w.heap.size,1,none⟩) (Nat.le_refl _) _
         | false=>
          have HN:=hid (show R = none by rw [HRR.out,if_neg (by simp)])
          clear hB hBl hbig
          go_upto_region 14 with (go_at_call 123; refine HF64.out.mono ?_; rintro e w2 ⟨rfl,hb2⟩; have HB2:=hid (HB0.out.trans (hb2.mono HB0.out.size)); have HL2:=hid (HL0.out.below hb2); clear hb2)
          have hbA:=below_one w2 (.cells #[.int .i64 0,.int .i64 0] 38 (0,0))
          have HL3:=hid (HL2.out.below hbA)
          have HB3:=hid (HB2.out.trans (hbA.mono HB2.out.size))
          have hfA:faultRow (w2.alloc (.cells #[.int .i64 0,.int .i64 0] 38)) w2.heap.size 0 0:=heap_one w2 _
          obtain ⟨e0,e1,_,_⟩:=hfA.cells
          clear hbA hfA
          generalize w2.alloc (.cells #[.int .i64 0,.int .i64 0] 38) = w3 at *
          generalize w2.heap.size = xb at *
          obtain ⟨c0,c1,f0,f1⟩:=HL3.out.cells
          go_wp2_with (go_at_call 39; refine (HNM.out _).mono ?_; rintro e w4 ⟨rfl,hb4⟩; have HL4:=hid (HL3.out.below hb4); have HB4:=hid (HB3.out.trans (hb4.mono HB3.out.size)); clear hb4 c0 c1 f0 f1; obtain ⟨c0,c1,f0,f1⟩:=HL4.out.cells)
          refine ret_sig rfl w.heap.size [] [] false (line_set HL4.out [] []) rfl rfl rfl ⟨by rw [HN.out]; rfl,?_⟩
          exact (HB4.out.setCell (p:=⟨w.heap.size,0,none⟩) (Nat.le_refl _) _).setCell (p:=⟨w.heap.size,1,none⟩) (Nat.le_refl _) _
        ·have b2:(4096:Int) < (B.length:Int):=by omega
         have HN:=hid (show R = none by rw [HRR.out,if_neg (by rintro ⟨_,_,_,h⟩; exact hbig h)])
         clear hB hBl hbig
         go_upto_region 14 with (go_at_call 123; refine HF64.out.mono ?_; rintro e w2 ⟨rfl,hb2⟩; have HB2:=hid (HB0.out.trans (hb2.mono HB0.out.size)); have HL2:=hid (HL0.out.below hb2); clear hb2)
         have hbA:=below_one w2 (.cells #[.int .i64 0,.int .i64 0] 38 (0,0))
         have HL3:=hid (HL2.out.below hbA)
         have HB3:=hid (HB2.out.trans (hbA.mono HB2.out.size))
         have hfA:faultRow (w2.alloc (.cells #[.int .i64 0,.int .i64 0] 38)) w2.heap.size 0 0:=heap_one w2 _
         obtain ⟨e0,e1,_,_⟩:=hfA.cells
         clear hbA hfA
         generalize w2.alloc (.cells #[.int .i64 0,.int .i64 0] 38) = w3 at *
         generalize w2.heap.size = xb at *
         obtain ⟨c0,c1,f0,f1⟩:=HL3.out.cells
         go_wp2_with fail
         refine ret_sig rfl w.heap.size [] [] false (line_set HL3.out [] []) rfl rfl rfl ⟨by rw [HN.out]; rfl,?_⟩
         exact (HB3.out.setCell (p:=⟨w.heap.size,0,none⟩) (Nat.le_refl _) _).setCell (p:=⟨w.heap.size,1,none⟩) (Nat.le_refl _) _
      ·have HN:=hid (show R = none by rw [HRR.out,if_neg (by rintro ⟨_,h,_⟩; exact hc h)])
       have hci:((c:Int) == 0) = false:=by rw [beq_eq_false_iff_ne]; omega
       have hcj:¬ (c:Int) = 0:=by omega
       obtain ⟨z,hz⟩:∃ z,fz c p = z:=⟨_,rfl⟩
       rw [hz] at HF64
       clear hz hc
       go_upto_region 14 with (go_at_call 123; refine HF64.out.mono ?_; rintro e w2 ⟨rfl,hb2⟩; have HB2:=hid (HB0.out.trans (hb2.mono HB0.out.size)); have HL2:=hid (HL0.out.below hb2); clear hb2)
       have hbA:=below_one w2 (.cells #[.int .i64 (c:Int),.int .i64 z] 38 (0,0))
       have HL3:=hid (HL2.out.below hbA)
       have HB3:=hid (HB2.out.trans (hbA.mono HB2.out.size))
       have hfA:faultRow (w2.alloc (.cells #[.int .i64 (c:Int),.int .i64 z] 38)) w2.heap.size (c:Int) z:=heap_one w2 _
       obtain ⟨e0,e1,_,_⟩:=hfA.cells
       clear hbA hfA
       generalize w2.alloc (.cells #[.int .i64 (c:Int),.int .i64 z] 38) = w3 at *
       generalize w2.heap.size = xb at *
       obtain ⟨c0,c1,f0,f1⟩:=HL3.out.cells
       go_wp2_with fail
       refine ret_sig rfl w.heap.size [] [] false (line_set HL3.out [] []) rfl rfl rfl ⟨by rw [HN.out]; rfl,?_⟩
       exact (HB3.out.setCell (p:=⟨w.heap.size,0,none⟩) (Nat.le_refl _) _).setCell (p:=⟨w.heap.size,1,none⟩) (Nat.le_refl _) _
    ·obtain ⟨j,rfl⟩:∃ j,k = j + 1:=⟨k - 1,by omega⟩
     have j0:(0:Int) ≤ (j:Int):=by omega
     have j1:(j:Int) < (l.length:Int):=by omega
     obtain ⟨b,hb⟩:∃ b,l[j]? = some b:=⟨_,List.getElem?_eq_getElem (by omega)⟩
     have hst:=blA_step l j b hb
     have hix:=run_idx Tryz.underlying9 ⟨l.toArray⟩ j b hb (j:Int) rfl .i64
     have HJ:=hid hk
     rw [show (((j + 1:Nat):Int) - 1) = (j:Int) by omega]
     clear hb hk h0
     by_cases h32:b = 32
     ·have f32:(b.toNat:Int) = 32:=by rw [h32]; rfl
      have HST:=hid (show blA l j = j by rw [hst,if_pos h32])
      clear hst h32
      go_wp2_with fail
      exact ⟨⟨j,by have:=HJ.out; omega,by go_num,by rw [HST.out],by first | rfl | trivial⟩,by simp [intOf]⟩
     ·have f32:¬ (b.toNat:Int) = 32:=fun h=>h32 (UInt8.toNat_inj.1 (by show b.toNat = 32; omega))
      have f32b:((b.toNat:Int) == 32) = false:=by rw [beq_eq_false_iff_ne]; exact f32
      have HST:=hid (show blA l j = blA l (j + 1) by rw [hst,if_neg h32])
      clear hst h32
      go_wp2_with fail
      exact ⟨⟨j,by have:=HJ.out; omega,by go_num,by rw [HST.out],by first | rfl | trivial⟩,by simp [intOf]⟩
  ·have hq2:((⟨(s.take 4).toArray⟩:ByteArray).toList == (⟨#[226,128,148,32]⟩:ByteArray).toList) = false:=by
    have:(⟨#[226,128,148,32]⟩:ByteArray) = ⟨dashL.toArray⟩:=rfl
    rw [this,hq]
    exact decide_eq_false hpre
   have hq3:((⟨(s.take 4).toArray⟩:ByteArray).toList != (⟨#[226,128,148,32]⟩:ByteArray).toList) = true:=by rw [bne,hq2]; rfl
   have hq4:(s.take 4 == [226,128,148,32]) = false:=by rw [beq_eq_false_iff_ne]; exact hpre
   have hq5:(s.take 4 != [226,128,148,32]) = true:=by rw [bne,hq4]; rfl
   have hq6:¬ s.take 4 = [226,128,148,32]:=hpre
   have HN:=hid (show R = none by
    rw [← HR.out]
    unfold readLn
    rw [if_neg]
    rintro ⟨h,_⟩
    unfold Lib.hasPrefix at h
    obtain ⟨r,hr⟩:=List.isPrefixOf_iff_prefix.1 h
    exact hpre (by rw [← hr]; rfl))
   clear h4 hs hq hpre
   go_enter Tryz.func86,Tryz.ntmps86
   go_upto_region 1 with fail
   generalize w.alloc (.cells #[.string ⟨#[]⟩,.string ⟨#[]⟩] 156 (0,0)) = w1 at *
   obtain ⟨c0,c1,f0,f1⟩:=HL0.out.cells
   go_wp2_with fail
   refine ret_sig rfl w.heap.size [] [] false (line_set HL0.out [] []) rfl rfl rfl ⟨by rw [HN.out]; rfl,?_⟩
   exact (HB0.out.setCell (p:=⟨w.heap.size,0,none⟩) (Nat.le_refl _) _).setCell (p:=⟨w.heap.size,1,none⟩) (Nat.le_refl _) _
def endK (l:List UInt8):Nat→Nat
 | 0=>0
 | k + 1=>if 1 ≤ k∧l[k]? = some 10∧l[k - 1]? = some 10 then k else endK l k
theorem occ_two (l:List UInt8) (k:Nat):Lib.occAt l [10,10] k = true ↔ l[k]? = some 10∧l[k + 1]? = some 10:=by
 unfold Lib.occAt
 rw [show l[k]? = (l.drop k)[0]? by rw [List.getElem?_drop,Nat.add_zero],show l[k + 1]? = (l.drop k)[1]? by rw [List.getElem?_drop]]
 generalize l.drop k = d
 match d with
 | []=>simp [List.isPrefixOf]
 | [a]=>simp [List.isPrefixOf]
 | a :: b :: r=>
  simp only [List.isPrefixOf,Bool.and_eq_true,beq_iff_eq,List.getElem?_cons_zero,List.getElem?_cons_succ,Option.some.injEq]
  exact ⟨fun h=>⟨h.1.symm,h.2.1.symm⟩,fun h=>⟨h.1.symm,h.2.symm,trivial⟩⟩
theorem endK_occ (l:List UInt8):∀ k,endK l (k + 1) = (Lib.lastOcc l [10,10] k + 1).toNat
 | 0=>by
  rw [endK,if_neg (fun h=>absurd h.1 (by decide))]
  rfl
 | k + 1=>by
  have ih:=endK_occ l k
  rw [endK,Nat.add_sub_cancel]
  cases h:Lib.occAt l [10,10] k with
  | true=>
   have h2:=(occ_two l k).1 h
   rw [if_pos ⟨by omega,h2.2,h2.1⟩,Lib.lastOcc_hit l _ k h]
   omega
  | false=>
   rw [if_neg (fun h3=>by rw [(occ_two l k).2 ⟨h3.2.2,h3.2.1⟩] at h; cases h),Lib.lastOcc_miss l _ k h]
   exact ih
theorem endK_all (l:List UInt8):endK l l.length = endN l:=by
 unfold endN Lib.lastIndex
 by_cases h:([10,10]:List UInt8).length ≤ l.length
 ·rw [if_pos h]
  simp only [List.length_cons,List.length_nil] at h ⊢
  obtain ⟨n,hn⟩:∃ n,l.length = n + 1:=⟨l.length - 1,by omega⟩
  rw [hn,endK_occ]
  congr 3
  omega
 ·rw [if_neg h]
  simp only [List.length_cons,List.length_nil] at h
  rcases Nat.eq_zero_or_pos l.length with h0 | h0
  ·rw [h0]; rfl
  ·rw [show l.length = 0 + 1 by omega,endK,if_neg (fun h=>absurd h.1 (by decide))]; rfl
theorem cut_here (l:List UInt8) (c:UInt8) (m:Nat) (hm:l[m]? = some c) (hn:∀ j,j < m→l[j]? ≠ some c):Lib.cut l [c] = (l.take m,l.drop (m + 1),true):=by
 obtain ⟨hl,hc⟩:=List.getElem?_eq_some_iff.1 hm
 have e:l = l.take m ++ c :: l.drop (m + 1):=by
  conv=>lhs; rw [← List.take_append_drop m l]
  rw [List.drop_eq_getElem_cons hl,hc]
 have hno:c ∉ l.take m:=fun h=>by
  obtain ⟨j,hj,hjc⟩:=List.getElem_of_mem h
  rw [List.length_take] at hj
  refine hn j (by omega) ?_
  rw [List.getElem_take] at hjc
  rw [List.getElem?_eq_getElem (by omega),hjc]
 have h:=cut_app (l.take m) (l.drop (m + 1)) c hno
 rw [← e] at h
 exact h
theorem cut_none (l:List UInt8) (c:UInt8) (hn:c ∉ l):Lib.cut l [c] = (l,[],false):=by
 unfold Lib.cut
 rw [index_none l c hn,if_neg (by decide)]
theorem results_ttr {P:Program} {fn:Func} {u q p:Tmp} {ty:TypeId} (h:fn.results = #[.tmp u,.tmp q,.cell p ty]) (tmps:Array Value) (w:World) (g:Nat) (t:TypeId) (cs:Array Value) (fr:Nat × Nat) (d:TypeDesc)
  (hp:tmps.getD p undef = .pointer (some ⟨g,0,none⟩)) (hg:w.heap[g]? = some (.cells cs t fr))
  (hu:P.underlying ty = some d) (hd:(match d with | .struct _ | .array _ _=>true | _=>false) = true) (hi:(P.info? ty).map (·.size) = some cs.size) :
  (results fn tmps).run P w = .ok (.tuple #[tmps.getD u undef,tmps.getD q undef,.agg cs]) w:=by
 have hp':tmps[p]?.getD undef = .pointer (some ⟨g,0,none⟩):=by simpa using hp
 simp [results,h,hp',asAddr,run_loadVar_row w g t ty cs fr d hg hu hd hi,Result.andThen]
theorem ret_split {fn:Func} {u q p:Tmp} (hf:fn.results = #[.tmp u,.tmp q,.cell p 38]) {Q:Ending→World→Prop} {a:Act} {w:World} (g:Nat) (c z:Int) (v v2:Value)
  (hg:faultRow w g c z) (hd:a.defers = []) (hp:a.tmps.getD p undef = .pointer (some ⟨g,0,none⟩)) (hv:a.tmps.getD u undef = v) (hv2:a.tmps.getD q undef = v2) (hQ:Q (.returned (.tuple #[v,v2,.agg #[.int .i64 c,.int .i64 z]])) w):bodyPost Tryz.prog fn Q .ret a w:=by
 refine bodyPost_ret (v:=.tuple #[v,v2,.agg #[.int .i64 c,.int .i64 z]]) ?_ hd hQ
 rw [← hv,← hv2]
 exact results_ttr hf _ _ g 38 _ (0,0) _ hp hg Tryz.underlying38 rfl faultInfo
def RSpPost (w:World) (A:(List UInt8 × Lines) × Nat × Option Int) (e:Ending) (w':World):Prop:=
 ∃ v,e = .returned (.tuple #[.string ⟨A.1.1.toArray⟩,v,.agg #[.int .i64 (A.2.1:Int),.int .i64 (fz A.2.1 A.2.2)]])∧LnIn w' v A.1.2∧Below w.heap.size w w'
def EndRl (s:List UInt8) (w:World) (ev iv:Value) (wr:World):Prop:=
 ∃ i:Nat,1 ≤ i∧(i ≤ s.length ∨ i = 1)∧iv = .int .i64 (i:Int)∧ev = .int .i64 ((endK s i:Nat):Int)∧w = wr
def RSRel (s:List UInt8) (w:World) (e B:Nat) (lv fv:Value) (wr:World):Prop:=
 ∃ (acc:Lines) (p f:Nat),fv = .int .i64 (p:Int)∧p ≤ s.length∧s.length ≤ p + f∧linesN s.length (e + 1) (s.drop (e + 1)) [] = linesN f p (s.drop p) acc∧wr.ownsRow B 156 2 lv acc.length (lcells acc)∧acc.length ≤ 16∧Below w.heap.size w wr∧faultRow wr w.heap.size 0 0
def ToR (s:List UInt8) (p:Nat) (w:World) (tv:Value) (wr:World):Prop:=
 ∃ q:Nat,p ≤ q∧q ≤ s.length∧tv = .int .i64 (q:Int)∧(∀ j,p ≤ j→j < q→s[j]? ≠ some 10)∧w = wr
set_option maxRecDepth 100000 in
theorem infoLineR:(Tryz.prog.info? 156).map (fun i=>(i.zero,i.size,i.bytes)) = some (some (.agg #[.string ⟨#[]⟩,.string ⟨#[]⟩]),2,32):=by kernel_rfl
theorem wpList_appendLR {ops:Array Oper} {rest:List Oper} {o:Oper} {a:Act} {W:World} {Q:Exit→Act→World→Prop} (hgd:o.guard = none) (s x:Operand)
  (ho:o.op = .call { callee:=.builtin .append,args:=#[s,x],argTypes:=#[98,98] }) {B m g cap:Nat} {v:Value} {xs:List Value} {nm bs:List UInt8}
  (hs:a.eval s = v) (hown:W.ownsRow B 156 2 v m xs) (hx:a.eval x = .slice (some ⟨g,0,none⟩) 1 cap) (hr:W.heap[g]? = some (.cells #[.string ⟨nm.toArray⟩,.string ⟨bs.toArray⟩] 156 (0,0))) (hm:m ≤ 1000) (hB:B ≤ W.heap.size)
  (h:∀ v' W',W'.ownsRow B 156 2 v' (m + 1) (xs ++ [.string ⟨nm.toArray⟩,.string ⟨bs.toArray⟩])→W.grownBy W' v.ownBlock→wpList Tryz.prog ops Q rest (a.put o.dst v') W'):wpList Tryz.prog ops Q (o :: rest) a W:=
 wpList_plain hgd fun K hK=>by
  obtain ⟨i0,hi,hz⟩:=Option.map_eq_some_iff.1 infoLineR
  simp only [Prod.mk.injEq] at hz
  obtain ⟨hz0,hz1,hz2⟩:=hz
  obtain ⟨v',W',hr2,h2,h3,_,_⟩:=run_append_own_at (P:=Tryz.prog) W B 98 o.type 156 i0 _ 2 32 Tryz.underlying98 hi hz0 hz1 hz2 rfl (by decide) v m xs hown ⟨g,0,none⟩ 1 cap [.string ⟨nm.toArray⟩,.string ⟨bs.toArray⟩] rfl (fun j u hj=>by
   rw [Addr.add_mid,Nat.zero_add]
   exact cell_of hr j (by rw [← hj]; simp)) (by intro u hu; simp at hu; rcases hu with rfl | rfl <;> rfl) (by unfold maxLen; omega) (by omega) hB
  unfold Oper.wp execOp
  simp only [ho,resolve,invoke,builtin,Sem.run_bind,Sem.run_pure,Result.andThen_ok,List.map_toArray,List.map_cons,List.map_nil,hs,hx,hr2]
  exact hK _ _ (h v' W' h2 h3)
theorem lnIn_own {W:World} {B:Nat} {T:TypeId} {v:Value} {L:Lines} (h:W.ownsRow B T 2 v L.length (lcells L)):LnIn W v L:=by
 rcases h.2 with ⟨rfl,h0⟩ | ⟨g,cap,cur,rfl,_,hg,hc,_,_,htk⟩
 ·refine ⟨none,0,by rw [h0],by omega,fun hne=>absurd (List.eq_nil_of_length_eq_zero h0) hne⟩
 ·refine ⟨_,cap,rfl,hc,fun _=>⟨g,rfl,fun j u hj=>?_⟩⟩
  rw [Nat.zero_add]
  refine cell_of hg j ?_
  rw [← htk,List.getElem?_take] at hj
  split at hj
  ·rw [← Array.getElem?_toList]; exact hj
  ·cases hj
set_option maxHeartbeats 16000000 in
set_option maxRecDepth 100000 in
theorem r24Split_any (s:List UInt8) (hs:s.length ≤ 4611686018427386000) (w:World) :
  Calls Tryz.prog 40 #[.string ⟨s.toArray⟩] w fun e w'=>RSpPost w (splitN s) e w':=by
 obtain ⟨A,hA⟩:∃ A,splitN s = A:=⟨_,rfl⟩
 have HA:=hid hA
 rw [hA]
 clear hA
 have HFP:=hid (faultPlaced_any 3)
 have HF0:=hid (fW_row w)
 have HB0:=hid (fW_below (Below.refl (fW w).heap.size (fW w)))
 have s0:(0:Int) ≤ (s.length:Int):=by omega
 by_cases hbig:1048576 < s.length
 ·have l1:(1048576:Int) < (s.length:Int):=by omega
  have l2:(s.length:Int) ≤ 4611686018427386000:=by omega
  have HE:=hid (show A = (([],[]),4,none) by rw [← HA.out]; unfold splitN; rw [if_pos hbig])
  have HP4:=hid (faultPlain_any 4 (by decide))
  clear hbig hs
  go_enter Tryz.func40,Tryz.ntmps40
  go_upto_region 1 with fail
  have hfw:w.alloc (.cells #[.int .i64 0,.int .i64 0] 38) = fW w:=rfl
  rw [hfw]
  generalize fW w = wX at *
  have HBX:=HB0
  have HFX:=HF0
  clear hfw
  go_wp2_with (go_at_call 28; refine (HP4.out _).mono ?_; rintro e wE ⟨rfl,hbE⟩; have HBE:=hid (HBX.out.trans (hbE.mono HBX.out.size)); have HFE:=hid (HFX.out.below hbE); obtain ⟨d0,d1,f0,f1⟩:=HFE.out.cells; clear hbE)
  refine ret_split rfl w.heap.size 4 (-1) (.string ⟨#[]⟩) (.slice none 0 0) (fault_set HFE.out _ _) rfl rfl rfl rfl ⟨.slice none 0 0,?_,?_,end_below HBE.out 4 (-1)⟩
  ·rw [HE.out]; rfl
  ·rw [HE.out]; exact lnNil _
 ·have l1:¬ (1048576:Int) < (s.length:Int):=by omega
  have l2:(s.length:Int) ≤ 1048576:=by omega
  have HLEN:=hid (show s.length ≤ 1048576 by omega)
  have HOD:=hid (r24odd_any s (by omega))
  have hlt:∀ i,oddAt s.length 0 s = some i→i < s.length:=fun i h=>by
   have:=oddAt_lt s.length 0 s i h
   omega
  have hAA:A = match oddAt s.length 0 s with
   | some i=>(([],[]),3,some (i:Int))
   | none=>if endN s = 0 ∨ 524288 < endN s then (([],[]),3,some (s.length:Int)) else toldN s.length (s.take (endN s)) (linesN s.length (endN s + 1) (s.drop (endN s + 1)) []):=by
   rw [← HA.out]; unfold splitN; rw [if_neg hbig]; rfl
  obtain ⟨O,hO⟩:∃ O,oddAt s.length 0 s = O:=⟨_,rfl⟩
  rw [hO] at HOD hlt hAA
  have HAA:=hid hAA
  clear hO hbig hs hAA
  cases O with
  | some i=>
   have i1:(i:Int) < (s.length:Int):=by have:=hlt i rfl; omega
   have HE:=hid (show A = (([],[]),3,some (i:Int)) from HAA.out)
   have HOD:=hid (fun W=>(HOD.out W:Calls Tryz.prog 84 #[.string ⟨s.toArray⟩] W fun e w'=>e = .returned (.int .i64 (i:Int))∧Below W.heap.size W w'))
   clear hlt
   go_enter Tryz.func40,Tryz.ntmps40
   go_upto_region 1 with fail
   have hfw:w.alloc (.cells #[.int .i64 0,.int .i64 0] 38) = fW w:=rfl
   rw [hfw]
   generalize fW w = w1 at *
   clear hfw
   go_upto_region 4 with (go_at_call 84; refine (HOD.out _).mono ?_; rintro e wX ⟨rfl,hbX⟩; have HBX:=hid (HB0.out.trans (hbX.mono HB0.out.size)); have HFX:=hid (HF0.out.below hbX); clear hbX)
   go_wp2_with (go_at_call 85; refine (HFP.out (i:Int) _).mono ?_; rintro e wE ⟨rfl,hbE⟩; have HBE:=hid (HBX.out.trans (hbE.mono HBX.out.size)); have HFE:=hid (HFX.out.below hbE); obtain ⟨d0,d1,f0,f1⟩:=HFE.out.cells; clear hbE)
   refine ret_split rfl w.heap.size 3 (i:Int) (.string ⟨#[]⟩) (.slice none 0 0) (fault_set HFE.out _ _) rfl rfl rfl rfl ⟨.slice none 0 0,?_,?_,end_below HBE.out 3 (i:Int)⟩
   ·rw [HE.out]; rfl
   ·rw [HE.out]; exact lnNil _
  | none=>
   have i1:¬ (s.length:Int) < (s.length:Int):=by omega
   have HAA:=hid (show A = if endN s = 0 ∨ 524288 < endN s then (([],[]),3,some (s.length:Int)) else toldN s.length (s.take (endN s)) (linesN s.length (endN s + 1) (s.drop (endN s + 1)) []) from HAA.out)
   have HOD:=hid (fun W=>(HOD.out W:Calls Tryz.prog 84 #[.string ⟨s.toArray⟩] W fun e w'=>e = .returned (.int .i64 (s.length:Int))∧Below W.heap.size W w'))
   have HEA:=hid (endK_all s)
   clear hlt
   go_enter Tryz.func40,Tryz.ntmps40
   go_upto_region 1 with fail
   have hfw:w.alloc (.cells #[.int .i64 0,.int .i64 0] 38) = fW w:=rfl
   rw [hfw]
   generalize fW w = w1 at *
   clear hfw
   go_upto_region 4 with (go_at_call 84; refine (HOD.out _).mono ?_; rintro e wX ⟨rfl,hbX⟩; have HBX:=hid (HB0.out.trans (hbX.mono HB0.out.size)); have HFX:=hid (HF0.out.below hbX); clear hbX)
   go_wp2_with fail
   go_loopw [6,7] (fun ev iv wr=>EndRl s wX ev iv wr) (fun _ iv _=>s.length - (intOf iv).toNat)
   case atStart=>exact ⟨1,Nat.le_refl _,.inr rfl,rfl,by simp [endK],rfl⟩
   case round=>
    obtain ⟨i,hi1,hil,rfl,rfl,rfl⟩:=hrel
    have i0:(1:Int) ≤ (i:Int):=by omega
    by_cases hlt:i < s.length
    ·have i2:(i:Int) < (s.length:Int):=by omega
     have HI:=hid hlt
     have HI1:=hid hi1
     obtain ⟨b,hb⟩:∃ b,s[i]? = some b:=⟨_,List.getElem?_eq_getElem hlt⟩
     obtain ⟨b',hb'⟩:∃ b,s[i - 1]? = some b:=⟨_,List.getElem?_eq_getElem (by omega)⟩
     have hst:endK s (i + 1) = if 1 ≤ i∧s[i]? = some 10∧s[i - 1]? = some 10 then i else endK s i:=rfl
     rw [hb,hb'] at hst
     have hix:=run_idx Tryz.underlying9 ⟨s.toArray⟩ i b hb (i:Int) rfl .i64
     have hix':=run_idx Tryz.underlying9 ⟨s.toArray⟩ (i - 1) b' hb' ((i:Int) - 1) (by omega) .i64
     clear hb hb' hlt hil hi1
     by_cases h10:b = 10
     ·have f10:(b.toNat:Int) = 10:=by rw [h10]; rfl
      by_cases h10':b' = 10
      ·have f10':(b'.toNat:Int) = 10:=by rw [h10']; rfl
       have HST:=hid (show endK s (i + 1) = i by rw [hst,if_pos ⟨HI1.out,by rw [h10],by rw [h10']⟩])
       clear hst h10 h10'
       go_wp2_with fail
       exact ⟨⟨i + 1,by omega,.inl HI.out,by go_num,by rw [HST.out],by first | rfl | trivial⟩,by have:=HI.out; simp [intOf]; omega⟩
      ·have f10':¬ (b'.toNat:Int) = 10:=fun h=>h10' (UInt8.toNat_inj.1 (by show b'.toNat = 10; omega))
       have f10b:((b'.toNat:Int) == 10) = false:=by rw [beq_eq_false_iff_ne]; exact f10'
       have HST:=hid (show endK s (i + 1) = endK s i by rw [hst,if_neg (by rintro ⟨_,_,h⟩; exact h10' (Option.some.inj h))])
       clear hst h10 h10'
       go_wp2_with fail
       exact ⟨⟨i + 1,by omega,.inl HI.out,by go_num,by rw [HST.out],by first | rfl | trivial⟩,by have:=HI.out; simp [intOf]; omega⟩
     ·have f10:¬ (b.toNat:Int) = 10:=fun h=>h10 (UInt8.toNat_inj.1 (by show b.toNat = 10; omega))
      have f10b:((b.toNat:Int) == 10) = false:=by rw [beq_eq_false_iff_ne]; exact f10
      have HST:=hid (show endK s (i + 1) = endK s i by rw [hst,if_neg (by rintro ⟨_,h,_⟩; exact h10 (Option.some.inj h))])
      clear hst h10
      go_wp2_with fail
      exact ⟨⟨i + 1,by omega,.inl HI.out,by go_num,by rw [HST.out],by first | rfl | trivial⟩,by have:=HI.out; simp [intOf]; omega⟩
    ·have i2:¬ (i:Int) < (s.length:Int):=by omega
     have hee:endK s i = endN s:=by
      rcases hil with h | h
      ·rw [show i = s.length by omega]; exact HEA.out
      ·subst h
       rw [← HEA.out]
       rcases Nat.eq_zero_or_pos s.length with h0 | h0
       ·rw [h0]; rfl
       ·rw [show s.length = 1 by omega]
     rw [hee]
     have hel:=endN_le s
     obtain ⟨E,hE⟩:∃ E,endN s = E:=⟨_,rfl⟩
     rw [hE] at HAA hel ⊢
     have E0:(0:Int) ≤ (E:Int):=by omega
     clear hee hE hil hlt hi1
     by_cases hz:E = 0
     ·have e0:((E:Int) == 0) = true:=by rw [hz]; rfl
      have e0b:(E:Int) = 0:=by omega
      have HE:=hid (show A = (([],[]),3,some (s.length:Int)) by rw [HAA.out,if_pos (.inl hz)])
      clear hz hel
      go_wp2_with (go_at_call 85; refine (HFP.out (s.length:Int) _).mono ?_; rintro e wE ⟨rfl,hbE⟩; have HBE:=hid (HBX.out.trans (hbE.mono HBX.out.size)); have HFE:=hid (HFX.out.below hbE); obtain ⟨d0,d1,f0,f1⟩:=HFE.out.cells; clear hbE)
      refine ret_split rfl w.heap.size 3 (s.length:Int) (.string ⟨#[]⟩) (.slice none 0 0) (fault_set HFE.out _ _) rfl rfl rfl rfl ⟨.slice none 0 0,?_,?_,end_below HBE.out 3 (s.length:Int)⟩
      ·rw [HE.out]; rfl
      ·rw [HE.out]; exact lnNil _
     ·have e0:((E:Int) == 0) = false:=by rw [beq_eq_false_iff_ne]; omega
      have e0b:¬ (E:Int) = 0:=by omega
      have hel:=(hel hz).1
      by_cases h524:524288 < E
      ·have e1:(524288:Int) < (E:Int):=by omega
       have HE:=hid (show A = (([],[]),3,some (s.length:Int)) by rw [HAA.out,if_pos (.inr h524)])
       clear hz hel h524
       go_wp2_with (go_at_call 85; refine (HFP.out (s.length:Int) _).mono ?_; rintro e wE ⟨rfl,hbE⟩; have HBE:=hid (HBX.out.trans (hbE.mono HBX.out.size)); have HFE:=hid (HFX.out.below hbE); obtain ⟨d0,d1,f0,f1⟩:=HFE.out.cells; clear hbE)
       refine ret_split rfl w.heap.size 3 (s.length:Int) (.string ⟨#[]⟩) (.slice none 0 0) (fault_set HFE.out _ _) rfl rfl rfl rfl ⟨.slice none 0 0,?_,?_,end_below HBE.out 3 (s.length:Int)⟩
       ·rw [HE.out]; rfl
       ·rw [HE.out]; exact lnNil _
      ·have e1:¬ (524288:Int) < (E:Int):=by omega
       have HAA:=hid (show A = toldN s.length (s.take E) (linesN s.length (E + 1) (s.drop (E + 1)) []) by rw [HAA.out,if_neg (by rintro (h | h); exact hz h; exact h524 h)])
       have HEL:=hid hel
       have HEZ:=hid hz
       have e2:(E:Int) ≤ 524288:=by omega
       clear hz hel h524
       go_wp2_with fail
       go_loopw [8,9] (fun lv fv wr=>RSRel s w E (w.heap.size + 1) lv fv wr) (fun _ fv _=>s.length - (intOf fv).toNat)
       case atStart=>exact ⟨[],E + 1,s.length,by go_num,HEL.out,by omega,rfl,World.ownsRow_nil _ _ _ _,by simp,HBX.out,HFX.out⟩
       case round=>
        obtain ⟨acc,p,f,rfl,hp,hf,hlin,hown,h16,hbel,hft⟩:=hrel
        rename World=>wr
        obtain ⟨lao,lcp,rfl⟩:=own_form hown
        have HLIN:=hid hlin
        have HOW:=hid hown
        have HBX:=hid hbel
        have HFX:=hid hft
        have H16:=hid h16
        have HPF:=hid hf
        have HP:=hid hp
        have p0:(0:Int) ≤ (p:Int):=by omega
        have a0:(0:Int) ≤ (acc.length:Int):=by omega
        have a1:(acc.length:Int) ≤ 16:=by omega
        clear hlin hown hbel hft h16 hf
        by_cases hlt:p < s.length
        ·have p1:(p:Int) < (s.length:Int):=by omega
         have HLT:=hid hlt
         obtain ⟨f',rfl⟩:∃ f',f = f' + 1:=⟨f - 1,by have:=HPF.out; omega⟩
         clear hlt hp
         go_wp2_with fail
         go_loopw [10] (fun tv wz=>ToR s p wr tv wz) (fun tv _=>s.length - (intOf tv).toNat)
         case atStart=>exact ⟨p,Nat.le_refl _,HP.out,rfl,fun j h1 h2=>absurd h2 (by omega),rfl⟩
         case round=>
          obtain ⟨q,hpq,hql,rfl,hno,rfl⟩:=hrel
          have HNO:=hid hno
          have HPQ:=hid hpq
          have q0:(0:Int) ≤ (q:Int):=by omega
          have q1:(p:Int) ≤ (q:Int):=by omega
          have q2:(q:Int) ≤ (s.length:Int):=by omega
          clear hno
          by_cases hlq:q < s.length
          ·have q3:(q:Int) < (s.length:Int):=by omega
           obtain ⟨b,hb⟩:∃ b,s[q]? = some b:=⟨_,List.getElem?_eq_getElem hlq⟩
           have HB:=hid hb
           have HLQ:=hid hlq
           have hix:=run_idx Tryz.underlying9 ⟨s.toArray⟩ q b hb (q:Int) rfl .i64
           clear hb
           by_cases h10:b = 10
           ·have f10:(b.toNat:Int) = 10:=by rw [h10]; rfl
            have f10b:((b.toNat:Int) != 10) = false:=by rw [f10]; rfl
            have hcut:Lib.cut (s.drop p) [10] = ((s.drop p).take (q - p),(s.drop p).drop (q - p + 1),true):=cut_here _ 10 (q - p) (by rw [List.getElem?_drop,show p + (q - p) = q by omega,HB.out,h10]) (fun j hj=>by rw [List.getElem?_drop]; exact HNO.out (p + j) (by omega) (by omega))
            rw [List.drop_drop,show p + (q - p + 1) = q + 1 by omega] at hcut
            have HCUT:=hid hcut
            have q4:((q:Int) == (s.length:Int)) = false:=by rw [beq_eq_false_iff_ne]; omega
            have q4b:¬ (q:Int) = (s.length:Int):=by omega
            clear hcut h10 hlq hpq hql
            have hsm:=slice_mid s p q HPQ.out (by have:=HLQ.out; omega)
            have hdn:s.drop p ≠ []:=fun e=>by have h:=congrArg List.length e; rw [List.length_drop] at h; have:=HLT.out; simp at h; omega
            have hbad:=linesN_bad f' p (s.drop p) acc hdn
            have hgo:=linesN_go f' p (s.drop p) acc hdn
            rw [HCUT.out] at hbad hgo
            have HBAD:=hid hbad
            have HGO:=hid hgo
            have HSG:=hid (r24sig_any ((s.drop p).take (q - p)) (by rw [List.length_take,List.length_drop]; have:=HLEN.out; omega))
            obtain ⟨X,hX⟩:∃ X,readLn ((s.drop p).take (q - p)) = X:=⟨_,rfl⟩
            rw [hX] at HSG
            have HX:=hid hX
            clear hbad hgo hX hdn
            cases X with
            | none=>
             have HE:=hid (show A = (([],[]),3,some (p:Int)) by rw [HAA.out,HLIN.out,HBAD.out (.inr (.inl HX.out))]; rfl)
             go_upto_region 21 with (go_at_call 86; refine (HSG.out _).mono ?_; unfold sigV; rintro e wG ⟨rfl,hbG⟩; have hbG:=hbG.alloc hbG.size (.cells #[.string ⟨#[]⟩,.string ⟨#[]⟩] 156 (0,0)); have HBX:=hid (HBX.out.trans (hbG.mono HBX.out.size)); have HFX:=hid (HFX.out.below hbG); clear hbG)
             go_wp2_with (go_at_call 85; refine (HFP.out (p:Int) _).mono ?_; rintro e wE ⟨rfl,hbE⟩; have HBE:=hid (HBX.out.trans (hbE.mono HBX.out.size)); have HFE:=hid (HFX.out.below hbE); obtain ⟨d0,d1,f0,f1⟩:=HFE.out.cells; clear hbE)
             refine ret_split rfl w.heap.size 3 (p:Int) (.string ⟨#[]⟩) (.slice none 0 0) (fault_set HFE.out _ _) rfl rfl rfl rfl ⟨.slice none 0 0,?_,?_,end_below HBE.out 3 (p:Int)⟩
             ·rw [HE.out]; rfl
             ·rw [HE.out]; exact lnNil _
            | some x=>
             obtain ⟨nm,bs⟩:=x
             have HMT:=hid (fun (W:World) (hW:Below wr.heap.size wr W)=>r24met_any acc nm _ W (lnIn_own (ownBelowI HOW.out hW)) (by have:=H16.out; omega))
             obtain ⟨M,hM⟩:∃ M,(acc.any fun y=>decide (y.1 = nm)) = M:=⟨_,rfl⟩
             rw [hM] at HMT
             have HM:=hid hM
             clear hM
             go_upto_region 21 with (go_at_call 86; refine (HSG.out _).mono ?_; unfold sigV; rintro e wG ⟨rfl,hbG⟩; have hcG:=heap_one wG (.cells #[.string ⟨nm.toArray⟩,.string ⟨bs.toArray⟩] 156 (0,0)); have hbG:=hbG.alloc hbG.size (.cells #[.string ⟨nm.toArray⟩,.string ⟨bs.toArray⟩] 156 (0,0)); have HBG:=hid hbG; have HBX:=hid (HBX.out.trans (hbG.mono HBX.out.size)); have HFX:=hid (HFX.out.below hbG); clear hbG)
             have c0:=cell_of hcG 0 rfl
             have c1:=cell_of hcG 1 rfl
             generalize wG.alloc (.cells #[.string ⟨nm.toArray⟩,.string ⟨bs.toArray⟩] 156) = wL at *
             generalize wG.heap.size = xb at *
             have HOL:=hid (ownBelowI HOW.out HBG.out)
             clear hcG
             cases M with
             | true=>
              have HE:=hid (show A = (([],[]),3,some (p:Int)) by rw [HAA.out,HLIN.out,HBAD.out (.inr (.inr ⟨_,HX.out,.inl HM.out⟩))]; rfl)
              go_upto_region 22 with (go_at_call 42; refine (HMT.out _ HBG.out).mono ?_; rintro e wM ⟨rfl,rfl⟩)
              go_wp2_with (go_at_call 85; refine (HFP.out (p:Int) _).mono ?_; rintro e wE ⟨rfl,hbE⟩; have HBE:=hid (HBX.out.trans (hbE.mono HBX.out.size)); have HFE:=hid (HFX.out.below hbE); obtain ⟨d0,d1,f0,f1⟩:=HFE.out.cells; clear hbE)
              refine ret_split rfl w.heap.size 3 (p:Int) (.string ⟨#[]⟩) (.slice none 0 0) (fault_set HFE.out _ _) rfl rfl rfl rfl ⟨.slice none 0 0,?_,?_,end_below HBE.out 3 (p:Int)⟩
              ·rw [HE.out]; rfl
              ·rw [HE.out]; exact lnNil _
             | false=>
              by_cases h16:acc.length = 16
              ·have a2:(acc.length:Int) = 16:=by omega
               have a2b:((acc.length:Int) == 16) = true:=by rw [beq_iff_eq]; exact a2
               have HE:=hid (show A = (([],[]),3,some (p:Int)) by rw [HAA.out,HLIN.out,HBAD.out (.inr (.inr ⟨_,HX.out,.inr h16⟩))]; rfl)
               clear h16
               go_upto_region 22 with (go_at_call 42; refine (HMT.out _ HBG.out).mono ?_; rintro e wM ⟨rfl,rfl⟩)
               go_wp2_with (go_at_call 85; refine (HFP.out (p:Int) _).mono ?_; rintro e wE ⟨rfl,hbE⟩; have HBE:=hid (HBX.out.trans (hbE.mono HBX.out.size)); have HFE:=hid (HFX.out.below hbE); obtain ⟨d0,d1,f0,f1⟩:=HFE.out.cells; clear hbE)
               refine ret_split rfl w.heap.size 3 (p:Int) (.string ⟨#[]⟩) (.slice none 0 0) (fault_set HFE.out _ _) rfl rfl rfl rfl ⟨.slice none 0 0,?_,?_,end_below HBE.out 3 (p:Int)⟩
               ·rw [HE.out]; rfl
               ·rw [HE.out]; exact lnNil _
              ·have a2:¬ (acc.length:Int) = 16:=by omega
               have a2b:((acc.length:Int) == 16) = false:=by rw [beq_eq_false_iff_ne]; exact a2
               have HNX:=hid (HGO.out (nm,bs) trivial HX.out HM.out h16)
               have H15:=hid (show acc.length + 1 ≤ 16 by have:=H16.out; omega)
               clear h16
               go_upto_region 23 with (go_at_call 42; refine (HMT.out _ HBG.out).mono ?_; rintro e wM ⟨rfl,rfl⟩)
               go_upto_region 24 with (refine wpList_appendLR (by rfl) (.tmp 100) (.tmp 102) (by rfl) (by rfl) (ownBelowI HOL.out (below_one wL (.cells #[.string ⟨nm.toArray⟩,.string ⟨bs.toArray⟩] 156 (0,0)))) (by rfl) (heap_one wL _) (by have:=H16.out; omega) (by have:=lt_of_heap HFX.out; simp; omega) ?_; intro vN wN h2 h3; have HBN:=hid ((HBX.out.alloc HBX.out.size (.cells #[.string ⟨nm.toArray⟩,.string ⟨bs.toArray⟩] 156 (0,0))).grown h3 (HBX.out.alloc HBX.out.size (.cells #[.string ⟨nm.toArray⟩,.string ⟨bs.toArray⟩] 156 (0,0))).size (fun g hg=>by have:=(HOL.out.lt g hg).1; omega)); have HON:=hid h2; have HFN:=hid (show faultRow wN w.heap.size 0 0 from (h3.block w.heap.size (Nat.lt_of_lt_of_le (lt_of_heap HFX.out) (below_one wL (.cells #[.string ⟨nm.toArray⟩,.string ⟨bs.toArray⟩] 156 (0,0))).size) (fun e=>by have:=(HOL.out.lt _ e.symm).1; omega)).trans (HFX.out.below (below_one wL (.cells #[.string ⟨nm.toArray⟩,.string ⟨bs.toArray⟩] 156 (0,0))))); clear h2 h3)
               go_wp2_with fail
               refine ⟨⟨acc ++ [(nm,bs)],q + 1,f',by go_num,by have:=HLQ.out; omega,by have:=HPF.out; have:=HPQ.out; omega,?_,?_,by rw [List.length_append,List.length_singleton]; exact H15.out,HBN.out,HFN.out⟩,by have:=HLQ.out; have:=HPQ.out; simp [intOf]; omega⟩
               ·rw [HLIN.out,HNX.out]
                have hl:((s.drop p).take (q - p)).length = q - p:=by rw [List.length_take,List.length_drop]; have:=HLQ.out; omega
                rw [hl,List.drop_drop,show p + (q - p) + 1 = q + 1 by have:=HPQ.out; omega,show p + (q - p + 1) = q + 1 by have:=HPQ.out; omega]
               ·rw [List.length_append,List.length_singleton,lcells_snoc]
                exact HON.out
           ·have f10:¬ (b.toNat:Int) = 10:=fun h=>h10 (UInt8.toNat_inj.1 (by show b.toNat = 10; omega))
            have f10b:((b.toNat:Int) != 10) = true:=by rw [bne_iff_ne]; exact f10
            have HN10:=hid h10
            clear h10 hlq hql hpq
            go_wp2_with fail
            refine ⟨⟨q + 1,by have:=HPQ.out; omega,HLQ.out,by go_num,fun j h1 h2=>?_,by first | rfl | trivial⟩,by have:=HLQ.out; simp [intOf]; omega⟩
            by_cases hj:j = q
            ·rw [hj,HB.out]
             exact fun h=>HN10.out (Option.some.inj h)
            ·exact HNO.out j h1 (by omega)
          ·obtain rfl:q = s.length:=by omega
           have q3:¬ (s.length:Int) < (s.length:Int):=by omega
           have q4:((s.length:Int) == (s.length:Int)) = true:=by simp
           have hcut:Lib.cut (s.drop p) [10] = (s.drop p,[],false):=cut_none _ 10 (fun h=>by
            obtain ⟨j,hj,hjc⟩:=List.getElem_of_mem h
            rw [List.length_drop] at hj
            rw [List.getElem_drop] at hjc
            exact HNO.out (p + j) (by omega) (by omega) (by rw [List.getElem?_eq_getElem (by omega),hjc]))
           have HCUT:=hid hcut
           have hsm:=slice_mid s p s.length HPQ.out (Nat.le_refl _)
           have hbad:=linesN_bad f' p (s.drop p) acc (fun e=>by have h:=congrArg List.length e; rw [List.length_drop] at h; have:=HLT.out; simp at h; omega) (.inl (by rw [HCUT.out]))
           have HE:=hid (show A = (([],[]),3,some (p:Int)) by rw [HAA.out,HLIN.out,hbad]; rfl)
           have HSG:=hid (r24sig_any ((s.drop p).take (s.length - p)) (by rw [List.length_take,List.length_drop]; have:=HLEN.out; omega))
           obtain ⟨X,hX⟩:∃ X,readLn ((s.drop p).take (s.length - p)) = X:=⟨_,rfl⟩
           rw [hX] at HSG
           clear hcut hlq hpq hql hbad hX
           cases X with
           | none=>
            go_upto_region 21 with (go_at_call 86; refine (HSG.out _).mono ?_; unfold sigV; rintro e wG ⟨rfl,hbG⟩; have hbG:=hbG.alloc hbG.size (.cells #[.string ⟨#[]⟩,.string ⟨#[]⟩] 156 (0,0)); have HBX:=hid (HBX.out.trans (hbG.mono HBX.out.size)); have HFX:=hid (HFX.out.below hbG); clear hbG)
            go_wp2_with (go_at_call 85; refine (HFP.out (p:Int) _).mono ?_; rintro e wE ⟨rfl,hbE⟩; have HBE:=hid (HBX.out.trans (hbE.mono HBX.out.size)); have HFE:=hid (HFX.out.below hbE); obtain ⟨d0,d1,f0,f1⟩:=HFE.out.cells; clear hbE)
            refine ret_split rfl w.heap.size 3 (p:Int) (.string ⟨#[]⟩) (.slice none 0 0) (fault_set HFE.out _ _) rfl rfl rfl rfl ⟨.slice none 0 0,?_,?_,end_below HBE.out 3 (p:Int)⟩
            ·rw [HE.out]; rfl
            ·rw [HE.out]; exact lnNil _
           | some x=>
            obtain ⟨nm,bs⟩:=x
            go_upto_region 21 with (go_at_call 86; refine (HSG.out _).mono ?_; unfold sigV; rintro e wG ⟨rfl,hbG⟩; have hbG:=hbG.alloc hbG.size (.cells #[.string ⟨nm.toArray⟩,.string ⟨bs.toArray⟩] 156 (0,0)); have HBX:=hid (HBX.out.trans (hbG.mono HBX.out.size)); have HFX:=hid (HFX.out.below hbG); clear hbG)
            go_wp2_with (go_at_call 85; refine (HFP.out (p:Int) _).mono ?_; rintro e wE ⟨rfl,hbE⟩; have HBE:=hid (HBX.out.trans (hbE.mono HBX.out.size)); have HFE:=hid (HFX.out.below hbE); obtain ⟨d0,d1,f0,f1⟩:=HFE.out.cells; clear hbE)
            refine ret_split rfl w.heap.size 3 (p:Int) (.string ⟨#[]⟩) (.slice none 0 0) (fault_set HFE.out _ _) rfl rfl rfl rfl ⟨.slice none 0 0,?_,?_,end_below HBE.out 3 (p:Int)⟩
            ·rw [HE.out]; rfl
            ·rw [HE.out]; exact lnNil _
        ·obtain rfl:p = s.length:=by omega
         have p1:¬ (s.length:Int) < (s.length:Int):=by omega
         have HL2:=hid (show A = toldN s.length (s.take E) (.ok acc) by rw [HAA.out,HLIN.out,List.drop_length,linesN_end])
         clear hlt hp
         cases acc with
         | nil=>
          have HE:=hid (show A = (([],[]),3,some (s.length:Int)) from HL2.out)
          have n0:((([]:Lines).length:Nat):Int) = 0:=rfl
          go_wp2_with (go_at_call 85; refine (HFP.out (s.length:Int) _).mono ?_; rintro e wE ⟨rfl,hbE⟩; have HBE:=hid (HBX.out.trans (hbE.mono HBX.out.size)); have HFE:=hid (HFX.out.below hbE); obtain ⟨d0,d1,f0,f1⟩:=HFE.out.cells; clear hbE)
          refine ret_split rfl w.heap.size 3 (s.length:Int) (.string ⟨#[]⟩) (.slice none 0 0) (fault_set HFE.out _ _) rfl rfl rfl rfl ⟨.slice none 0 0,?_,?_,end_below HBE.out 3 (s.length:Int)⟩
          ·rw [HE.out]; rfl
          ·rw [HE.out]; exact lnNil _
         | cons x r=>
          have HE:=hid (show A = ((s.take E,x :: r),0,none) from HL2.out)
          have n1:¬ (((x :: r).length:Nat):Int) = 0:=by rw [List.length_cons]; omega
          have n1b:((((x :: r).length:Nat):Int) == 0) = false:=by rw [beq_eq_false_iff_ne]; exact n1
          have hst:=slice_to s E (by have:=HEL.out; omega)
          obtain ⟨d0,d1,f0,f1⟩:=HFX.out.cells
          go_wp2_with fail
          refine ret_split rfl w.heap.size 0 0 (.string ⟨(s.take E).toArray⟩) (.slice lao (r.length + 1) lcp) (fault_set HFX.out _ _) rfl rfl rfl rfl ⟨.slice lao (r.length + 1) lcp,?_,?_,end_below HBX.out 0 0⟩
          ·rw [HE.out]; rfl
          ·rw [HE.out]
           exact lnIn_own (rowKeepK HOW.out fun g hg=>by
            have h1:=(HOW.out.lt g hg).1
            exact (Below.heap_setCell _ ⟨w.heap.size,1,none⟩ _ g (by show g ≠ w.heap.size; omega)).trans (Below.heap_setCell _ ⟨w.heap.size,0,none⟩ _ g (by show g ≠ w.heap.size; omega)))
def RSgPost (w0 w:World) (rb:Nat) (lv:Value) (s:List UInt8) (h nx:Nat) (note name:List UInt8) (e:Ending) (w':World):Prop:=
 e = .returned (.tuple #[.string ⟨(if sgCode h nx note name = 0 then sgOut s h nx note name else []).toArray⟩,.agg #[.int .i64 ((sgCode h nx note name:Nat):Int),.int .i64 (fz (sgCode h nx note name) none)]])∧RK w' rb s h (if sgCode h nx note name = 0 then nx + 1 else nx) (2 ^ h) lv∧But [rb] w w'∧Below w0.heap.size w0 w'
theorem RSgPost.no {w0 w w':World} {rb:Nat} {lv:Value} {s:List UInt8} {h nx:Nat} {note name:List UInt8} (c:Nat) (ci:Int) (hci:ci = (c:Int)) (hc:sgCode h nx note name = c) (h1:1 ≤ c) (hk:RK w rb s h nx (2 ^ h) lv) (hb:Below w.heap.size w w') (hB0:Below w0.heap.size w0 w) :
  RSgPost w0 w rb lv s h nx note name (.returned (.tuple #[.string ⟨#[]⟩,.agg #[.int .i64 ci,.int .i64 (-1)]])) w':=by
 have h0:¬ sgCode h nx note name = 0:=by omega
 unfold RSgPost
 rw [if_neg h0,if_neg h0,hc,hci]
 refine ⟨?_,hk.below hb,But.of_below hb,hB0.trans (hb.mono hB0.size)⟩
 rw [show fz c none = -1 from if_neg (by omega)]
theorem RSgPost.yes {w0 w w':World} {rb:Nat} {lv:Value} {s:List UInt8} {h nx:Nat} {note name out:List UInt8} (hc:sgCode h nx note name = 0) (ho:sgOut s h nx note name = out) (hk:RK w' rb s h (nx + 1) (2 ^ h) lv) (hbut:But [rb] w w') (hb:Below w0.heap.size w0 w') :
  RSgPost w0 w rb lv s h nx note name (.returned (.tuple #[.string ⟨out.toArray⟩,.agg #[.int .i64 0,.int .i64 0]])) w':=by
 unfold RSgPost
 rw [if_pos hc,if_pos hc,hc,ho]
 exact ⟨rfl,hk,hbut,hb⟩
theorem RK.setNew {w:World} {rb g o:Nat} {s:List UInt8} {h nx nx2 k:Nat} {lv:Value} (B:World) (hk:RK w rb s h nx k lv) (hB:RK B rb s h nx2 k lv) (hg:B.heap.size ≤ g) (v:Value):RK (w.setCell ⟨g,o,none⟩ v) rb s h nx k lv:=by
 refine hk.same (B:=B.heap.size) hB.lt (fun g' hg'=>(hB.own.lt g' hg').2) fun g' hg'=>Below.heap_setCell w ⟨g,o,none⟩ v g' ?_
 show g' ≠ g
 omega
set_option maxHeartbeats 8000000 in
set_option maxRecDepth 100000 in
theorem r24Sign_spent (rb:Nat) (s:List UInt8) (h nx:Nat) (hn:nx = 2 ^ h) (hh:h ≤ 6) (lv:Value) (note name:List UInt8) (hnl:note.length ≤ 4611686018427386000) (w0 w:World) (hB0:Below w0.heap.size w0 w) (hrb:w0.heap.size ≤ rb) (hk:RK w rb s h nx (2 ^ h) lv) :
  Calls Tryz.prog 12 #[.string ⟨note.toArray⟩,.string ⟨name.toArray⟩,.pointer (some ⟨rb,0,none⟩)] w fun e w'=>RSgPost w0 w rb lv s h nx note name e w':=by
 have HB0:=hid hB0
 have HRB:=hid hrb
 have HK:=hid hk
 have HN:=hid hn
 have HH:=hid hh
 have HCODE:=hid (show sgCode h nx note name = if nameOf name = false then 2 else match splitL note with
  | none=>2
  | some (_,_,L)=>if (L.any fun y=>decide (y.1 = name)) = true then 2 else if L.length = 16 then 4 else if nx = 2 ^ h then 11 else 0 from rfl)
 have HSL:=hid (show splitL note = if (splitN note).2.1 = 0 then some (note,(splitN note).1.1,(splitN note).1.2) else if mayTxt note = true then some (note ++ [10],note,[]) else none from rfl)
 have HNA:=hid fun (W:World)=>refName_any ⟨name.toArray⟩ W
 have HSP:=hid fun (W:World)=>r24Split_any note hnl W
 have HMY:=hid fun (W:World)=>r24May_any note hnl W
 have HP2:=hid (faultPlain_any 2 (by decide))
 have HP4:=hid (faultPlain_any 4 (by decide))
 rw [show (⟨name.toArray⟩:ByteArray).data.toList = name from rfl] at HNA
 obtain ⟨N,hN⟩:∃ N,nameOf name = N:=⟨_,rfl⟩
 rw [hN] at HNA HCODE
 have HNLEN:=hid (fun h:N = true=>(name_len (hN.trans h)).1)
 obtain ⟨A,hA⟩:∃ A,splitN note = A:=⟨_,rfl⟩
 rw [hA] at HSP HSL
 obtain ⟨⟨txt,L⟩,c,p⟩:=A
 have HAL:=hid (splitN_bound note hA)
 have hl16:=splitN_le note hA
 obtain ⟨M,hM⟩:∃ M,mayTxt note = M:=⟨_,rfl⟩
 rw [hM] at HMY HSL
 have HML:=hid (fun hm:M = true=>mayTxt_len note (hM.trans hm))
 have HF0:=hid (fW_row w)
 have HBA:=hid (fW_below (Below.refl (fW w).heap.size (fW w)))
 have HSZ:=hid (show w.heap.size < (fW w).heap.size by rw [fW_size]; omega)
 clear hB0 hrb hk hN hA hM hnl hn hh
 go_enter Tryz.func12,Tryz.ntmps12
 go_upto_region 1 with fail
 have hfw:w.alloc (.cells #[.int .i64 0,.int .i64 0] 38) = fW w:=rfl
 rw [hfw]
 generalize fW w = w1 at *
 clear hfw
 cases N with
 | false=>
  have HC2:=hid (show sgCode h nx note name = 2 from HCODE.out)
  go_wp2_with (first | (go_at_call 39; refine (HNA.out _).mono ?_; rintro e w5 ⟨rfl,hb5⟩; have HBX:=hid (HBA.out.trans (hb5.mono HBA.out.size)); have HFX:=hid (HF0.out.below hb5); have HSX:=hid (Nat.lt_of_lt_of_le HSZ.out hb5.size); clear hb5) | (go_at_call 28; refine (HP2.out _).mono ?_; rintro e wE ⟨rfl,hbE⟩; have HBE:=hid (HBX.out.trans (hbE.mono HBX.out.size)); have HFE:=hid (HFX.out.below hbE); obtain ⟨d0,d1,f0,f1⟩:=HFE.out.cells; clear hbE))
  exact ret_told rfl w.heap.size 2 (-1) (.string ⟨#[]⟩) (fault_set HFE.out _ _) rfl rfl rfl (RSgPost.no 2 2 rfl HC2.out (by decide) HK.out (end_below HBE.out 2 (-1)) HB0.out)
 | true=>
  go_upto_region 3 with (go_at_call 39; refine (HNA.out _).mono ?_; rintro e w5 ⟨rfl,hb5⟩; have HBX:=hid (HBA.out.trans (hb5.mono HBA.out.size)); have HFX:=hid (HF0.out.below hb5); have HSX:=hid (Nat.lt_of_lt_of_le HSZ.out hb5.size); clear hb5)
  go_upto_region 4 with (go_at_call 40; refine (HSP.out _).mono ?_; rintro e w6 ⟨v6,rfl,hln,hb6⟩; have HB6:=hid (HBX.out.trans (hb6.mono HBX.out.size)); have HF6:=hid (HFX.out.below hb6); have HL6:=hid hln; have HS6:=hid (Nat.lt_of_lt_of_le HSX.out hb6.size); obtain ⟨lao,lcap,rfl,_,_⟩:=hln; clear hb6)
  have hbt:=below_one w6 (.cells #[.int .i64 (c:Int),.int .i64 (fz c p)] 38)
  have hft:faultRow (w6.alloc (.cells #[.int .i64 (c:Int),.int .i64 (fz c p)] 38)) w6.heap.size (c:Int) (fz c p):=heap_alloc_new w6 (.cells #[.int .i64 (c:Int),.int .i64 (fz c p)] 38)
  have HBT:=hid (HB6.out.trans (hbt.mono HB6.out.size))
  have HFT:=hid (HF6.out.below hbt)
  have HLT:=hid (HL6.out.below hbt)
  have HF10:=hid hft
  have HLB:=HS6.out
  generalize w6.alloc (.cells #[.int .i64 (c:Int),.int .i64 (fz c p)] 38) = wT at *
  generalize w6.heap.size = b10 at *
  clear hbt hft
  by_cases hc:c = 0
  ·have HSO:=hid (show splitL note = some (note,txt,L) by rw [HSL.out,if_pos hc])
   have HCO:=hid (show sgCode h nx note name = if (L.any fun y=>decide (y.1 = name)) = true then 2 else if L.length = 16 then 4 else if nx = 2 ^ h then 11 else 0 by rw [HCODE.out,HSO.out]; rfl)
   have HTL:=hid (HAL.out.1 hc)
   subst hc
   have HF10:=hid (show faultRow wT b10 0 0 from HF10.out)
   obtain ⟨d0,d1,f0,f1⟩:=HF10.out.cells
   go_upto_region 10 with fail
   clear d0 d1 f0 f1
   have HMT:=hid (r24met_any L name _ wT HLT.out (by first | exact Nat.le_trans hl16 (by decide) | exact Nat.zero_le _))
   obtain ⟨ME,hME⟩:∃ ME,(L.any fun y=>decide (y.1 = name)) = ME:=⟨_,rfl⟩
   rw [hME] at HMT HCO
   clear hME
   cases ME with
   | true=>
    have HC2:=hid (show sgCode h nx note name = 2 from HCO.out)
    go_wp2_with (first | (go_at_call 42; refine HMT.out.mono ?_; rintro e wM ⟨rfl,hwM⟩; subst hwM) | (go_at_call 28; refine (HP2.out _).mono ?_; rintro e wE ⟨rfl,hbE⟩; have HBE:=hid (HBT.out.trans (hbE.mono HBT.out.size)); have HFE:=hid (HFT.out.below hbE); obtain ⟨d0,d1,f0,f1⟩:=HFE.out.cells; clear hbE))
    exact ret_told rfl w.heap.size 2 (-1) (.string ⟨#[]⟩) (fault_set HFE.out _ _) rfl rfl rfl (RSgPost.no 2 2 rfl HC2.out (by decide) HK.out (end_below HBE.out 2 (-1)) HB0.out)
   | false=>
    have HCO:=hid (show sgCode h nx note name = if L.length = 16 then 4 else if nx = 2 ^ h then 11 else 0 from HCO.out)
    by_cases h16:L.length = 16
    ·have l16:(L.length:Int) = 16:=by omega
     have l16b:((L.length:Int) == 16) = true:=by rw [beq_iff_eq]; exact l16
     have HC4:=hid (show sgCode h nx note name = 4 by rw [HCO.out,if_pos h16])
     clear h16
     go_wp2_with (first | (go_at_call 42; refine HMT.out.mono ?_; rintro e wM ⟨rfl,hwM⟩; subst hwM) | (go_at_call 28; refine (HP4.out _).mono ?_; rintro e wE ⟨rfl,hbE⟩; have HBE:=hid (HBT.out.trans (hbE.mono HBT.out.size)); have HFE:=hid (HFT.out.below hbE); obtain ⟨d0,d1,f0,f1⟩:=HFE.out.cells; clear hbE))
     exact ret_told rfl w.heap.size 4 (-1) (.string ⟨#[]⟩) (fault_set HFE.out _ _) rfl rfl rfl (RSgPost.no 4 4 rfl HC4.out (by decide) HK.out (end_below HBE.out 4 (-1)) HB0.out)
    ·have l16:¬ (L.length:Int) = 16:=by omega
     have l16b:((L.length:Int) == 16) = false:=by rw [beq_eq_false_iff_ne]; exact l16
     have HCE:=hid (show sgCode h nx note name = if nx = 2 ^ h then 11 else 0 by rw [HCO.out,if_neg h16])
     clear h16
     have HC11:=hid (show sgCode h nx note name = 11 by rw [HCE.out,if_pos HN.out])
     have HSS:=hid (r23Sign_spent rb s h HH.out lv txt wT (by have hk:=HK.out.below HBT.out; have hn:=HN.out; subst hn; exact hk))
     go_upto_region 14 with (go_at_call 42; refine HMT.out.mono ?_; rintro e wM ⟨rfl,hwM⟩; subst hwM)
     go_upto_region 15 with (go_at_call 43; refine HSS.out.mono ?_; rintro e w9 ⟨rfl,hb9⟩; have HB9:=hid (HBT.out.trans (hb9.mono HBT.out.size)); have HF9:=hid (HFT.out.below hb9); have HG9:=hid (HF10.out.below hb9); clear hb9; have hbS:=below_one w9 (.cells #[.int .i64 0,.slice none 0 0,.slice none 0 0] 73 (0,0)); have HB9b:=hid (HB9.out.trans (hbS.mono HB9.out.size)); have HF9b:=hid (HF9.out.below hbS); have HG9b:=hid (HG9.out.below hbS); obtain ⟨d0,d1,f0,f1⟩:=HG9b.out.cells; clear hbS)
     have hfe:faultRow (((w9.alloc (.cells #[.int .i64 0,.slice none 0 0,.slice none 0 0] 73)).setCell ⟨b10,0,none⟩ (.int .i64 11)).setCell ⟨b10,1,none⟩ (.int .i64 (-1))) w.heap.size 0 0:=((Below.heap_setCell _ ⟨b10,1,none⟩ _ w.heap.size (by show w.heap.size ≠ b10; omega)).trans (Below.heap_setCell _ ⟨b10,0,none⟩ _ w.heap.size (by show w.heap.size ≠ b10; omega))).trans HF9b.out
     have hge:faultRow (((w9.alloc (.cells #[.int .i64 0,.slice none 0 0,.slice none 0 0] 73)).setCell ⟨b10,0,none⟩ (.int .i64 11)).setCell ⟨b10,1,none⟩ (.int .i64 (-1))) b10 11 (-1):=fault_set HG9b.out 11 (-1)
     have hbe:Below w.heap.size w (((w9.alloc (.cells #[.int .i64 0,.slice none 0 0,.slice none 0 0] 73)).setCell ⟨b10,0,none⟩ (.int .i64 11)).setCell ⟨b10,1,none⟩ (.int .i64 (-1))):=(HB9b.out.setCell (p:=⟨b10,0,none⟩) (Nat.le_of_lt HLB) _).setCell (p:=⟨b10,1,none⟩) (Nat.le_of_lt HLB) _
     generalize ((w9.alloc (.cells #[.int .i64 0,.slice none 0 0,.slice none 0 0] 73)).setCell ⟨b10,0,none⟩ (.int .i64 11)).setCell ⟨b10,1,none⟩ (.int .i64 (-1)) = wX at *
     clear d0 d1 f0 f1 HG9b HF9b HB9b
     have HFX1:=hid hfe
     have HGX1:=hid hge
     have HBX1:=hid hbe
     clear hfe hge hbe
     obtain ⟨d0,d1,f0,f1⟩:=HGX1.out.cells
     go_upto_region 16 with fail
     have hlt10:b10 < wX.heap.size:=lt_of_heap HGX1.out
     go_wp2_with fail
     refine wp_region_kept_tail 2 (by kernel_rfl) (by kernel_rfl) ?_
     simp only [List.take_succ_cons,List.take_zero,List.drop_succ_cons,List.drop_zero]
     iterate 2 go_big_quiet_step (fail)
     refine wpQuiet_nil ?_
     intro x
     clear d0 d1 f0 f1 hlt10
     have HFY:=hid (HFX1.out.below x.below)
     have HBY:=hid (HBX1.out.trans (x.below.mono HBX1.out.size))
     generalize x.w = wY at *
     clear x
     obtain ⟨d0,d1,f0,f1⟩:=HFY.out.cells
     go_wp2_with fail
     exact ret_told rfl w.heap.size 11 (-1) (.string ⟨#[]⟩) (fault_set HFY.out _ _) rfl rfl rfl (RSgPost.no 11 11 rfl HC11.out (by decide) HK.out (end_below HBY.out 11 (-1)) HB0.out)
  ·have c0:((c:Int) == 0) = false:=by rw [beq_eq_false_iff_ne]; omega
   have c1:¬ (c:Int) = 0:=by omega
   obtain ⟨d0,d1,f0,f1⟩:=HF10.out.cells
   generalize fz c p = z at *
   cases M with
   | false=>
    have HC2:=hid (show sgCode h nx note name = 2 by rw [HCODE.out,HSL.out,if_neg hc]; rfl)
    clear hc
    go_wp2_with (first | (go_at_call 41; refine (HMY.out _).mono ?_; rintro e w7 ⟨rfl,hb7⟩; have HBV:=hid (HBT.out.trans (hb7.mono HBT.out.size)); have HFV:=hid (HFT.out.below hb7); have HGV:=hid (HF10.out.below hb7); have HLV:=hid (HLT.out.below hb7); clear hb7) | (go_at_call 28; refine (HP2.out _).mono ?_; rintro e wE ⟨rfl,hbE⟩; have HBE:=hid (HBV.out.trans (hbE.mono HBV.out.size)); have HFE:=hid (HFV.out.below hbE); obtain ⟨d0,d1,f0,f1⟩:=HFE.out.cells; clear hbE))
    exact ret_told rfl w.heap.size 2 (-1) (.string ⟨#[]⟩) (fault_set HFE.out _ _) rfl rfl rfl (RSgPost.no 2 2 rfl HC2.out (by decide) HK.out (end_below HBE.out 2 (-1)) HB0.out)
   | true=>
    have HSO:=hid (show splitL note = some (note ++ [10],note,[]) by rw [HSL.out,if_neg hc]; rfl)
    have HCE:=hid (show sgCode h nx note name = if nx = 2 ^ h then 11 else 0 by rw [HCODE.out,HSO.out]; rfl)
    have HTL:=hid (HML.out rfl)
    obtain rfl:L = []:=HAL.out.2 hc
    have hnil0:([]:Lines).length = 0:=rfl
    have k0:¬ 9223372036854775807 < note.length + 1:=by have:=HTL.out; omega
    clear hc
    go_upto_region 10 with (go_at_call 41; refine (HMY.out _).mono ?_; rintro e w7 ⟨rfl,hb7⟩; have HBV:=hid (HBT.out.trans (hb7.mono HBT.out.size)); have HFV:=hid (HFT.out.below hb7); have HGV:=hid (HF10.out.below hb7); have HLV:=hid (HLT.out.below hb7); clear hb7)
    clear k0 HBT HFT HF10 HLT d0 d1 f0 f1
    have HBT:=HBV
    have HFT:=HFV
    have HF10:=HGV
    have HLT:=HLV
    clear HBV HFV HGV HLV
    have HMT:=hid (r24met_any [] name _ w7 HLT.out (by first | exact Nat.le_trans hl16 (by decide) | exact Nat.zero_le _))
    simp only [List.any_nil] at HMT
    have HC11:=hid (show sgCode h nx note name = 11 by rw [HCE.out,if_pos HN.out])
    have HSS:=hid (r23Sign_spent rb s h HH.out lv note w7 (by have hk:=HK.out.below HBT.out; have hn:=HN.out; subst hn; exact hk))
    go_upto_region 14 with (go_at_call 42; refine HMT.out.mono ?_; rintro e wM ⟨rfl,hwM⟩; subst hwM)
    go_upto_region 15 with (go_at_call 43; refine HSS.out.mono ?_; rintro e w9 ⟨rfl,hb9⟩; have HB9:=hid (HBT.out.trans (hb9.mono HBT.out.size)); have HF9:=hid (HFT.out.below hb9); have HG9:=hid (HF10.out.below hb9); clear hb9; have hbS:=below_one w9 (.cells #[.int .i64 0,.slice none 0 0,.slice none 0 0] 73 (0,0)); have HB9b:=hid (HB9.out.trans (hbS.mono HB9.out.size)); have HF9b:=hid (HF9.out.below hbS); have HG9b:=hid (HG9.out.below hbS); obtain ⟨d0,d1,f0,f1⟩:=HG9b.out.cells; clear hbS)
    have hfe:faultRow (((w9.alloc (.cells #[.int .i64 0,.slice none 0 0,.slice none 0 0] 73)).setCell ⟨b10,0,none⟩ (.int .i64 11)).setCell ⟨b10,1,none⟩ (.int .i64 (-1))) w.heap.size 0 0:=((Below.heap_setCell _ ⟨b10,1,none⟩ _ w.heap.size (by show w.heap.size ≠ b10; omega)).trans (Below.heap_setCell _ ⟨b10,0,none⟩ _ w.heap.size (by show w.heap.size ≠ b10; omega))).trans HF9b.out
    have hge:faultRow (((w9.alloc (.cells #[.int .i64 0,.slice none 0 0,.slice none 0 0] 73)).setCell ⟨b10,0,none⟩ (.int .i64 11)).setCell ⟨b10,1,none⟩ (.int .i64 (-1))) b10 11 (-1):=fault_set HG9b.out 11 (-1)
    have hbe:Below w.heap.size w (((w9.alloc (.cells #[.int .i64 0,.slice none 0 0,.slice none 0 0] 73)).setCell ⟨b10,0,none⟩ (.int .i64 11)).setCell ⟨b10,1,none⟩ (.int .i64 (-1))):=(HB9b.out.setCell (p:=⟨b10,0,none⟩) (Nat.le_of_lt HLB) _).setCell (p:=⟨b10,1,none⟩) (Nat.le_of_lt HLB) _
    generalize ((w9.alloc (.cells #[.int .i64 0,.slice none 0 0,.slice none 0 0] 73)).setCell ⟨b10,0,none⟩ (.int .i64 11)).setCell ⟨b10,1,none⟩ (.int .i64 (-1)) = wX at *
    clear d0 d1 f0 f1 HG9b HF9b HB9b
    have HFX1:=hid hfe
    have HGX1:=hid hge
    have HBX1:=hid hbe
    clear hfe hge hbe
    obtain ⟨d0,d1,f0,f1⟩:=HGX1.out.cells
    go_upto_region 16 with fail
    have hlt10:b10 < wX.heap.size:=lt_of_heap HGX1.out
    go_wp2_with fail
    refine wp_region_kept_tail 2 (by kernel_rfl) (by kernel_rfl) ?_
    simp only [List.take_succ_cons,List.take_zero,List.drop_succ_cons,List.drop_zero]
    iterate 2 go_big_quiet_step (fail)
    refine wpQuiet_nil ?_
    intro x
    clear d0 d1 f0 f1 hlt10
    have HFY:=hid (HFX1.out.below x.below)
    have HBY:=hid (HBX1.out.trans (x.below.mono HBX1.out.size))
    generalize x.w = wY at *
    clear x
    obtain ⟨d0,d1,f0,f1⟩:=HFY.out.cells
    go_wp2_with fail
    exact ret_told rfl w.heap.size 11 (-1) (.string ⟨#[]⟩) (fault_set HFY.out _ _) rfl rfl rfl (RSgPost.no 11 11 rfl HC11.out (by decide) HK.out (end_below HBY.out 11 (-1)) HB0.out)
set_option maxHeartbeats 8000000 in
set_option maxRecDepth 100000 in
theorem r24Sign_go (rb:Nat) (s:List UInt8) (h nx:Nat) (hn:nx < 2 ^ h) (hh:h ≤ 6) (lv:Value) (note name:List UInt8) (hnl:note.length ≤ 4611686018427386000) (w0 w:World) (hB0:Below w0.heap.size w0 w) (hrb:w0.heap.size ≤ rb) (hk:RK w rb s h nx (2 ^ h) lv) :
  Calls Tryz.prog 12 #[.string ⟨note.toArray⟩,.string ⟨name.toArray⟩,.pointer (some ⟨rb,0,none⟩)] w fun e w'=>RSgPost w0 w rb lv s h nx note name e w':=by
 have HB0:=hid hB0
 have HRB:=hid hrb
 have HK:=hid hk
 have HN:=hid hn
 have HH:=hid hh
 have HCODE:=hid (show sgCode h nx note name = if nameOf name = false then 2 else match splitL note with
  | none=>2
  | some (_,_,L)=>if (L.any fun y=>decide (y.1 = name)) = true then 2 else if L.length = 16 then 4 else if nx = 2 ^ h then 11 else 0 from rfl)
 have HSL:=hid (show splitL note = if (splitN note).2.1 = 0 then some (note,(splitN note).1.1,(splitN note).1.2) else if mayTxt note = true then some (note ++ [10],note,[]) else none from rfl)
 have HNA:=hid fun (W:World)=>refName_any ⟨name.toArray⟩ W
 have HSP:=hid fun (W:World)=>r24Split_any note hnl W
 have HMY:=hid fun (W:World)=>r24May_any note hnl W
 have HP2:=hid (faultPlain_any 2 (by decide))
 have HP4:=hid (faultPlain_any 4 (by decide))
 rw [show (⟨name.toArray⟩:ByteArray).data.toList = name from rfl] at HNA
 obtain ⟨N,hN⟩:∃ N,nameOf name = N:=⟨_,rfl⟩
 rw [hN] at HNA HCODE
 have HNLEN:=hid (fun h:N = true=>(name_len (hN.trans h)).1)
 obtain ⟨A,hA⟩:∃ A,splitN note = A:=⟨_,rfl⟩
 rw [hA] at HSP HSL
 obtain ⟨⟨txt,L⟩,c,p⟩:=A
 have HAL:=hid (splitN_bound note hA)
 have hl16:=splitN_le note hA
 obtain ⟨M,hM⟩:∃ M,mayTxt note = M:=⟨_,rfl⟩
 rw [hM] at HMY HSL
 have HML:=hid (fun hm:M = true=>mayTxt_len note (hM.trans hm))
 have HF0:=hid (fW_row w)
 have HBA:=hid (fW_below (Below.refl (fW w).heap.size (fW w)))
 have HSZ:=hid (show w.heap.size < (fW w).heap.size by rw [fW_size]; omega)
 clear hB0 hrb hk hN hA hM hnl hn hh
 go_enter Tryz.func12,Tryz.ntmps12
 go_upto_region 1 with fail
 have hfw:w.alloc (.cells #[.int .i64 0,.int .i64 0] 38) = fW w:=rfl
 rw [hfw]
 generalize fW w = w1 at *
 clear hfw
 cases N with
 | false=>
  have HC2:=hid (show sgCode h nx note name = 2 from HCODE.out)
  go_wp2_with (first | (go_at_call 39; refine (HNA.out _).mono ?_; rintro e w5 ⟨rfl,hb5⟩; have HBX:=hid (HBA.out.trans (hb5.mono HBA.out.size)); have HFX:=hid (HF0.out.below hb5); have HSX:=hid (Nat.lt_of_lt_of_le HSZ.out hb5.size); clear hb5) | (go_at_call 28; refine (HP2.out _).mono ?_; rintro e wE ⟨rfl,hbE⟩; have HBE:=hid (HBX.out.trans (hbE.mono HBX.out.size)); have HFE:=hid (HFX.out.below hbE); obtain ⟨d0,d1,f0,f1⟩:=HFE.out.cells; clear hbE))
  exact ret_told rfl w.heap.size 2 (-1) (.string ⟨#[]⟩) (fault_set HFE.out _ _) rfl rfl rfl (RSgPost.no 2 2 rfl HC2.out (by decide) HK.out (end_below HBE.out 2 (-1)) HB0.out)
 | true=>
  go_upto_region 3 with (go_at_call 39; refine (HNA.out _).mono ?_; rintro e w5 ⟨rfl,hb5⟩; have HBX:=hid (HBA.out.trans (hb5.mono HBA.out.size)); have HFX:=hid (HF0.out.below hb5); have HSX:=hid (Nat.lt_of_lt_of_le HSZ.out hb5.size); clear hb5)
  go_upto_region 4 with (go_at_call 40; refine (HSP.out _).mono ?_; rintro e w6 ⟨v6,rfl,hln,hb6⟩; have HB6:=hid (HBX.out.trans (hb6.mono HBX.out.size)); have HF6:=hid (HFX.out.below hb6); have HL6:=hid hln; have HS6:=hid (Nat.lt_of_lt_of_le HSX.out hb6.size); obtain ⟨lao,lcap,rfl,_,_⟩:=hln; clear hb6)
  have hbt:=below_one w6 (.cells #[.int .i64 (c:Int),.int .i64 (fz c p)] 38)
  have hft:faultRow (w6.alloc (.cells #[.int .i64 (c:Int),.int .i64 (fz c p)] 38)) w6.heap.size (c:Int) (fz c p):=heap_alloc_new w6 (.cells #[.int .i64 (c:Int),.int .i64 (fz c p)] 38)
  have HBT:=hid (HB6.out.trans (hbt.mono HB6.out.size))
  have HFT:=hid (HF6.out.below hbt)
  have HLT:=hid (HL6.out.below hbt)
  have HF10:=hid hft
  have HLB:=HS6.out
  generalize w6.alloc (.cells #[.int .i64 (c:Int),.int .i64 (fz c p)] 38) = wT at *
  generalize w6.heap.size = b10 at *
  clear hbt hft
  by_cases hc:c = 0
  ·have HSO:=hid (show splitL note = some (note,txt,L) by rw [HSL.out,if_pos hc])
   have HCO:=hid (show sgCode h nx note name = if (L.any fun y=>decide (y.1 = name)) = true then 2 else if L.length = 16 then 4 else if nx = 2 ^ h then 11 else 0 by rw [HCODE.out,HSO.out]; rfl)
   have HTL:=hid (HAL.out.1 hc)
   subst hc
   have HF10:=hid (show faultRow wT b10 0 0 from HF10.out)
   obtain ⟨d0,d1,f0,f1⟩:=HF10.out.cells
   go_upto_region 10 with fail
   clear d0 d1 f0 f1
   have HMT:=hid (r24met_any L name _ wT HLT.out (by first | exact Nat.le_trans hl16 (by decide) | exact Nat.zero_le _))
   obtain ⟨ME,hME⟩:∃ ME,(L.any fun y=>decide (y.1 = name)) = ME:=⟨_,rfl⟩
   rw [hME] at HMT HCO
   clear hME
   cases ME with
   | true=>
    have HC2:=hid (show sgCode h nx note name = 2 from HCO.out)
    go_wp2_with (first | (go_at_call 42; refine HMT.out.mono ?_; rintro e wM ⟨rfl,hwM⟩; subst hwM) | (go_at_call 28; refine (HP2.out _).mono ?_; rintro e wE ⟨rfl,hbE⟩; have HBE:=hid (HBT.out.trans (hbE.mono HBT.out.size)); have HFE:=hid (HFT.out.below hbE); obtain ⟨d0,d1,f0,f1⟩:=HFE.out.cells; clear hbE))
    exact ret_told rfl w.heap.size 2 (-1) (.string ⟨#[]⟩) (fault_set HFE.out _ _) rfl rfl rfl (RSgPost.no 2 2 rfl HC2.out (by decide) HK.out (end_below HBE.out 2 (-1)) HB0.out)
   | false=>
    have HCO:=hid (show sgCode h nx note name = if L.length = 16 then 4 else if nx = 2 ^ h then 11 else 0 from HCO.out)
    by_cases h16:L.length = 16
    ·have l16:(L.length:Int) = 16:=by omega
     have l16b:((L.length:Int) == 16) = true:=by rw [beq_iff_eq]; exact l16
     have HC4:=hid (show sgCode h nx note name = 4 by rw [HCO.out,if_pos h16])
     clear h16
     go_wp2_with (first | (go_at_call 42; refine HMT.out.mono ?_; rintro e wM ⟨rfl,hwM⟩; subst hwM) | (go_at_call 28; refine (HP4.out _).mono ?_; rintro e wE ⟨rfl,hbE⟩; have HBE:=hid (HBT.out.trans (hbE.mono HBT.out.size)); have HFE:=hid (HFT.out.below hbE); obtain ⟨d0,d1,f0,f1⟩:=HFE.out.cells; clear hbE))
     exact ret_told rfl w.heap.size 4 (-1) (.string ⟨#[]⟩) (fault_set HFE.out _ _) rfl rfl rfl (RSgPost.no 4 4 rfl HC4.out (by decide) HK.out (end_below HBE.out 4 (-1)) HB0.out)
    ·have l16:¬ (L.length:Int) = 16:=by omega
     have l16b:((L.length:Int) == 16) = false:=by rw [beq_eq_false_iff_ne]; exact l16
     have HCE:=hid (show sgCode h nx note name = if nx = 2 ^ h then 11 else 0 by rw [HCO.out,if_neg h16])
     clear h16
     have HC0:=hid (show sgCode h nx note name = 0 by rw [HCE.out,if_neg (by have:=HN.out; omega)])
     have HOUT:=hid (show sgOut s h nx note name = note ++ lineL (sgLine s h nx txt name) by unfold sgOut; rw [HSO.out])
     have HSIG:=hid (r23Sign_any rb s h nx HN.out HH.out lv txt (by have:=HTL.out; omega) w0 wT (HB0.out.trans (HBT.out.mono HB0.out.size)) HRB.out (HK.out.below HBT.out))
     have hlt2:=(pow_h HH.out).2
     have hrbw:=HK.out.lt
     have n0:(0:Int) ≤ (nx:Int):=by omega
     have n63:(nx:Int) ≤ 63:=by have:=HN.out; omega
     go_upto_region 14 with (go_at_call 42; refine HMT.out.mono ?_; rintro e wM ⟨rfl,hwM⟩; subst hwM)
     go_upto_region 15 with (go_at_call 43; refine HSIG.out.mono ?_; rintro e w9 ⟨u,v,rfl,hu,hv,hk',hbut,hb9⟩; obtain ⟨uo,uc,rfl⟩:=own_formI hu; obtain ⟨vo,vc,rfl⟩:=own_formI hv; have HU:=hid hu; have HV:=hid hv; have HK9:=hid hk'; have HBU:=hid hbut; have HB9:=hid hb9; have HF9:=hid (hbut.heap HFT.out (show w.heap.size ∉ [rb] by simp; omega)); have HG9:=hid (hbut.heap HF10.out (show b10 ∉ [rb] by simp; omega)); clear hu hv hk' hbut hb9; have hbS:=below_one w9 (.cells #[.int .i64 (nx:Int),.slice uo 67 uc,.slice vo h vc] 73 (0,0)); have HF9b:=hid (below_heap hbS HF9.out); have HG9b:=hid (below_heap hbS HG9.out); obtain ⟨d0,d1,f0,f1⟩:=faultRow.cells HG9b.out)
     have hbS:=below_one w9 (.cells #[.int .i64 (nx:Int),.slice uo 67 uc,.slice vo h vc] 73 (0,0))
     have hrS:=heap_one w9 (.cells #[.int .i64 (nx:Int),.slice uo 67 uc,.slice vo h vc] 73 (0,0))
     have hu1:=ownBelowI HU.out hbS
     have hv1:=ownBelowI HV.out hbS
     have hk1:=HK9.out.below hbS
     have hbx:Below w.heap.size w9 _:=hbS.mono (Nat.le_trans HBT.out.size HBU.out.size)
     have hb10:b10 < wT.heap.size:=lt_of_heap HF10.out
     have hb9s:b10 < w9.heap.size:=Nat.lt_of_lt_of_le hb10 HBU.out.size
     clear d0 d1 f0 f1
     generalize w9.alloc (.cells #[.int .i64 (nx:Int),.slice uo 67 uc,.slice vo h vc] 73) = wA at *
     have HFX1:=hid (show faultRow ((wA.setCell ⟨b10,0,none⟩ (.int .i64 0)).setCell ⟨b10,1,none⟩ (.int .i64 0)) w.heap.size 0 0 from ((Below.heap_setCell _ ⟨b10,1,none⟩ _ w.heap.size (by show w.heap.size ≠ b10; omega)).trans (Below.heap_setCell _ ⟨b10,0,none⟩ _ w.heap.size (by show w.heap.size ≠ b10; omega))).trans HF9b.out)
     have HGX1:=hid (fault_set HG9b.out 0 0)
     have HSX:=hid (((Below.heap_setCell (wA.setCell ⟨b10,0,none⟩ (.int .i64 0)) ⟨b10,1,none⟩ (.int .i64 0) w9.heap.size (by show w9.heap.size ≠ b10; omega)).trans (Below.heap_setCell wA ⟨b10,0,none⟩ (.int .i64 0) w9.heap.size (by show w9.heap.size ≠ b10; omega))).trans hrS)
     have hoth:∀ g,g ≠ b10→((wA.setCell ⟨b10,0,none⟩ (.int .i64 0)).setCell ⟨b10,1,none⟩ (.int .i64 0)).heap[g]? = wA.heap[g]?:=fun g hg=>(Below.heap_setCell _ ⟨b10,1,none⟩ _ g hg).trans (Below.heap_setCell _ ⟨b10,0,none⟩ _ g hg)
     have HUX:=hid (rowKeepK hu1 fun g hg=>hoth g (by have:=(HU.out.lt g hg).1; omega))
     have HVX:=hid (rowKeepK hv1 fun g hg=>hoth g (by have:=(HV.out.lt g hg).1; omega))
     have HKX:=hid ((hk1.setNew (o:=0) w HK.out (Nat.le_of_lt HLB) (.int .i64 0)).setNew (o:=1) w HK.out (Nat.le_of_lt HLB) (.int .i64 0))
     have hbx2:=(hbx.setCell (p:=⟨b10,0,none⟩) (Nat.le_of_lt HLB) (.int .i64 0)).setCell (p:=⟨b10,1,none⟩) (Nat.le_of_lt HLB) (.int .i64 0)
     have HBUX:=hid (((But.of_below (bs:=[rb]) HBT.out).trans HBU.out).of_new hbx2)
     have HBX1:=hid (HB9.out.trans (hbx2.mono HB0.out.size))
     clear HF9 HG9 HF9b HG9b hu1 hv1 hk1 hbx hbx2 hoth hrS hbS hb10 hb9s
     generalize (wA.setCell ⟨b10,0,none⟩ (.int .i64 0)).setCell ⟨b10,1,none⟩ (.int .i64 0) = wX at *
     generalize w9.heap.size = sb at *
     obtain ⟨d0,d1,f0,f1⟩:=HGX1.out.cells
     have c0:=cell_of HSX.out 0 rfl
     have c1:=cell_of HSX.out 1 rfl
     have c2:=cell_of HSX.out 2 rfl
     have HENC:=hid (r23Encode_any nx (by omega) (signF (ownF s nx) (msgF nx txt)) (kpath s h nx) _ _ wX (hsIn_own (by rw [signF_length]; exact HUX.out) (signF_len _ _)) (hsIn_own (by rw [kpath_length]; exact HVX.out) (kpath_len _ _ _)) (signF_length _ _) (by rw [kpath_length]; exact HH.out))
     have HEL:=hid (encF_length nx (signF (ownF s nx) (msgF nx txt)) (kpath s h nx) (signF_length _ _) (signF_len _ _) (kpath_len s h nx))
     obtain ⟨E,hE⟩:∃ E,encF nx (signF (ownF s nx) (msgF nx txt)) (kpath s h nx) = E:=⟨_,rfl⟩
     have HE:=hid hE
     rw [hE] at HENC HEL
     have HB64:=hid fun (W:World)=>refBase64_any ⟨E.toArray⟩ W (by
      show (E.toArray.size + 2) / 3 * 4 ≤ _
      have:=HEL.out
      rw [kpath_length] at this
      have:=HH.out
      simp only [List.size_toArray]
      omega)
     rw [show (⟨E.toArray⟩:ByteArray).data.toList = E from rfl] at HB64
     have hb64l:=b64_length E
     have hel:=HEL.out
     rw [kpath_length] at hel
     have hh6:=HH.out
     have hnl64:name.length ≤ 64:=by first | exact HNLEN.out rfl | exact HNLEN.out trivial
     have k1:¬ 9223372036854775807 < note.length + 4:=by have:=HTL.out.1; omega
     have k2:¬ 9223372036854775807 < note.length + 4 + name.length:=by have:=HTL.out.1; omega
     have k3:¬ 9223372036854775807 < note.length + 4 + name.length + 1:=by have:=HTL.out.1; omega
     have k4:¬ 9223372036854775807 < note.length + 4 + name.length + 1 + (b64 E).length:=by have:=HTL.out.1; omega
     have k5:¬ 9223372036854775807 < note.length + 4 + name.length + 1 + (b64 E).length + 1:=by have:=HTL.out.1; omega
     have HBL:=hid hb64l
     clear hE HSIG hb64l hel hh6 hnl64
     obtain ⟨B64,hB64⟩:∃ B,b64 E = B:=⟨_,rfl⟩
     have HBE:=hid hB64
     rw [hB64] at HB64 k4 k5
     clear hB64
     go_upto_region 18 with (go_at_call 44; refine HENC.out.mono ?_; rintro e w11 ⟨rfl,hb11⟩)
     have hb12:=hb11.trans ((below_one w11 (.cells #[.int .i64 0,.int .i64 0] 38)).mono hb11.size)
     generalize w11.alloc (.cells #[.int .i64 0,.int .i64 0] 38) = w12 at *
     clear hb11 d0 d1 f0 f1 c0 c1 c2
     go_wp2_with (go_at_call 45; refine (HB64.out _).mono ?_; rintro e w13 ⟨rfl,hb13⟩; have hb13:=hb12.trans (hb13.mono hb12.size); have HFE:=hid (HFX1.out.below hb13); obtain ⟨d0,d1,f0,f1⟩:=HFE.out.cells)
     have ho:sgOut s h nx note name = note ++ (dashL ++ (name ++ 32 :: (B64 ++ [10]))):=by
      rw [HOUT.out,← HBE.out,← HE.out]
      rfl
     have hbw:Below w.heap.size wX w13:=hb13.mono HBUX.out.size
     have hbz:=(hbw.setCell (p:=⟨w.heap.size,0,none⟩) (Nat.le_refl _) (.int .i64 0)).setCell (p:=⟨w.heap.size,1,none⟩) (Nat.le_refl _) (.int .i64 0)
     have hp:=RSgPost.yes (w0:=w0) (w:=w) (rb:=rb) HC0.out ho (((HKX.out.below hb13).setNew (o:=0) w HK.out (Nat.le_refl _) (.int .i64 0)).setNew (o:=1) w HK.out (Nat.le_refl _) (.int .i64 0)) (HBUX.out.of_new hbz) (HBX1.out.trans (hbz.mono HB0.out.size))
     rw [← line_cat] at hp
     exact ret_told (u:=6) (p:=7) rfl w.heap.size 0 0 _ (fault_set HFE.out 0 0) rfl rfl rfl hp
  ·have c0:((c:Int) == 0) = false:=by rw [beq_eq_false_iff_ne]; omega
   have c1:¬ (c:Int) = 0:=by omega
   obtain ⟨d0,d1,f0,f1⟩:=HF10.out.cells
   generalize fz c p = z at *
   cases M with
   | false=>
    have HC2:=hid (show sgCode h nx note name = 2 by rw [HCODE.out,HSL.out,if_neg hc]; rfl)
    clear hc
    go_wp2_with (first | (go_at_call 41; refine (HMY.out _).mono ?_; rintro e w7 ⟨rfl,hb7⟩; have HBV:=hid (HBT.out.trans (hb7.mono HBT.out.size)); have HFV:=hid (HFT.out.below hb7); have HGV:=hid (HF10.out.below hb7); have HLV:=hid (HLT.out.below hb7); clear hb7) | (go_at_call 28; refine (HP2.out _).mono ?_; rintro e wE ⟨rfl,hbE⟩; have HBE:=hid (HBV.out.trans (hbE.mono HBV.out.size)); have HFE:=hid (HFV.out.below hbE); obtain ⟨d0,d1,f0,f1⟩:=HFE.out.cells; clear hbE))
    exact ret_told rfl w.heap.size 2 (-1) (.string ⟨#[]⟩) (fault_set HFE.out _ _) rfl rfl rfl (RSgPost.no 2 2 rfl HC2.out (by decide) HK.out (end_below HBE.out 2 (-1)) HB0.out)
   | true=>
    have HSO:=hid (show splitL note = some (note ++ [10],note,[]) by rw [HSL.out,if_neg hc]; rfl)
    have HCE:=hid (show sgCode h nx note name = if nx = 2 ^ h then 11 else 0 by rw [HCODE.out,HSO.out]; rfl)
    have HTL:=hid (HML.out rfl)
    obtain rfl:L = []:=HAL.out.2 hc
    have hnil0:([]:Lines).length = 0:=rfl
    have k0:¬ 9223372036854775807 < note.length + 1:=by have:=HTL.out; omega
    clear hc
    go_upto_region 10 with (go_at_call 41; refine (HMY.out _).mono ?_; rintro e w7 ⟨rfl,hb7⟩; have HBV:=hid (HBT.out.trans (hb7.mono HBT.out.size)); have HFV:=hid (HFT.out.below hb7); have HGV:=hid (HF10.out.below hb7); have HLV:=hid (HLT.out.below hb7); clear hb7)
    clear k0 HBT HFT HF10 HLT d0 d1 f0 f1
    have HBT:=HBV
    have HFT:=HFV
    have HF10:=HGV
    have HLT:=HLV
    clear HBV HFV HGV HLV
    have HMT:=hid (r24met_any [] name _ w7 HLT.out (by first | exact Nat.le_trans hl16 (by decide) | exact Nat.zero_le _))
    simp only [List.any_nil] at HMT
    have HC0:=hid (show sgCode h nx note name = 0 by rw [HCE.out,if_neg (by have:=HN.out; omega)])
    have HOUT:=hid (show sgOut s h nx note name = (note ++ [10]) ++ lineL (sgLine s h nx note name) by unfold sgOut; rw [HSO.out])
    have HSIG:=hid (r23Sign_any rb s h nx HN.out HH.out lv note (by have:=HTL.out; omega) w0 w7 (HB0.out.trans (HBT.out.mono HB0.out.size)) HRB.out (HK.out.below HBT.out))
    have hlt2:=(pow_h HH.out).2
    have hrbw:=HK.out.lt
    have n0:(0:Int) ≤ (nx:Int):=by omega
    have n63:(nx:Int) ≤ 63:=by have:=HN.out; omega
    go_upto_region 14 with (go_at_call 42; refine HMT.out.mono ?_; rintro e wM ⟨rfl,hwM⟩; subst hwM)
    go_upto_region 15 with (go_at_call 43; refine HSIG.out.mono ?_; rintro e w9 ⟨u,v,rfl,hu,hv,hk',hbut,hb9⟩; obtain ⟨uo,uc,rfl⟩:=own_formI hu; obtain ⟨vo,vc,rfl⟩:=own_formI hv; have HU:=hid hu; have HV:=hid hv; have HK9:=hid hk'; have HBU:=hid hbut; have HB9:=hid hb9; have HF9:=hid (hbut.heap HFT.out (show w.heap.size ∉ [rb] by simp; omega)); have HG9:=hid (hbut.heap HF10.out (show b10 ∉ [rb] by simp; omega)); clear hu hv hk' hbut hb9; have hbS:=below_one w9 (.cells #[.int .i64 (nx:Int),.slice uo 67 uc,.slice vo h vc] 73 (0,0)); have HF9b:=hid (below_heap hbS HF9.out); have HG9b:=hid (below_heap hbS HG9.out); obtain ⟨d0,d1,f0,f1⟩:=faultRow.cells HG9b.out)
    have hbS:=below_one w9 (.cells #[.int .i64 (nx:Int),.slice uo 67 uc,.slice vo h vc] 73 (0,0))
    have hrS:=heap_one w9 (.cells #[.int .i64 (nx:Int),.slice uo 67 uc,.slice vo h vc] 73 (0,0))
    have hu1:=ownBelowI HU.out hbS
    have hv1:=ownBelowI HV.out hbS
    have hk1:=HK9.out.below hbS
    have hbx:Below w.heap.size w9 _:=hbS.mono (Nat.le_trans HBT.out.size HBU.out.size)
    have hb10:b10 < w7.heap.size:=lt_of_heap HF10.out
    have hb9s:b10 < w9.heap.size:=Nat.lt_of_lt_of_le hb10 HBU.out.size
    clear d0 d1 f0 f1
    generalize w9.alloc (.cells #[.int .i64 (nx:Int),.slice uo 67 uc,.slice vo h vc] 73) = wA at *
    have HFX1:=hid (show faultRow ((wA.setCell ⟨b10,0,none⟩ (.int .i64 0)).setCell ⟨b10,1,none⟩ (.int .i64 0)) w.heap.size 0 0 from ((Below.heap_setCell _ ⟨b10,1,none⟩ _ w.heap.size (by show w.heap.size ≠ b10; omega)).trans (Below.heap_setCell _ ⟨b10,0,none⟩ _ w.heap.size (by show w.heap.size ≠ b10; omega))).trans HF9b.out)
    have HGX1:=hid (fault_set HG9b.out 0 0)
    have HSX:=hid (((Below.heap_setCell (wA.setCell ⟨b10,0,none⟩ (.int .i64 0)) ⟨b10,1,none⟩ (.int .i64 0) w9.heap.size (by show w9.heap.size ≠ b10; omega)).trans (Below.heap_setCell wA ⟨b10,0,none⟩ (.int .i64 0) w9.heap.size (by show w9.heap.size ≠ b10; omega))).trans hrS)
    have hoth:∀ g,g ≠ b10→((wA.setCell ⟨b10,0,none⟩ (.int .i64 0)).setCell ⟨b10,1,none⟩ (.int .i64 0)).heap[g]? = wA.heap[g]?:=fun g hg=>(Below.heap_setCell _ ⟨b10,1,none⟩ _ g hg).trans (Below.heap_setCell _ ⟨b10,0,none⟩ _ g hg)
    have HUX:=hid (rowKeepK hu1 fun g hg=>hoth g (by have:=(HU.out.lt g hg).1; omega))
    have HVX:=hid (rowKeepK hv1 fun g hg=>hoth g (by have:=(HV.out.lt g hg).1; omega))
    have HKX:=hid ((hk1.setNew (o:=0) w HK.out (Nat.le_of_lt HLB) (.int .i64 0)).setNew (o:=1) w HK.out (Nat.le_of_lt HLB) (.int .i64 0))
    have hbx2:=(hbx.setCell (p:=⟨b10,0,none⟩) (Nat.le_of_lt HLB) (.int .i64 0)).setCell (p:=⟨b10,1,none⟩) (Nat.le_of_lt HLB) (.int .i64 0)
    have HBUX:=hid (((But.of_below (bs:=[rb]) HBT.out).trans HBU.out).of_new hbx2)
    have HBX1:=hid (HB9.out.trans (hbx2.mono HB0.out.size))
    clear HF9 HG9 HF9b HG9b hu1 hv1 hk1 hbx hbx2 hoth hrS hbS hb10 hb9s
    generalize (wA.setCell ⟨b10,0,none⟩ (.int .i64 0)).setCell ⟨b10,1,none⟩ (.int .i64 0) = wX at *
    generalize w9.heap.size = sb at *
    obtain ⟨d0,d1,f0,f1⟩:=HGX1.out.cells
    have c0:=cell_of HSX.out 0 rfl
    have c1:=cell_of HSX.out 1 rfl
    have c2:=cell_of HSX.out 2 rfl
    have HENC:=hid (r23Encode_any nx (by omega) (signF (ownF s nx) (msgF nx note)) (kpath s h nx) _ _ wX (hsIn_own (by rw [signF_length]; exact HUX.out) (signF_len _ _)) (hsIn_own (by rw [kpath_length]; exact HVX.out) (kpath_len _ _ _)) (signF_length _ _) (by rw [kpath_length]; exact HH.out))
    have HEL:=hid (encF_length nx (signF (ownF s nx) (msgF nx note)) (kpath s h nx) (signF_length _ _) (signF_len _ _) (kpath_len s h nx))
    obtain ⟨E,hE⟩:∃ E,encF nx (signF (ownF s nx) (msgF nx note)) (kpath s h nx) = E:=⟨_,rfl⟩
    have HE:=hid hE
    rw [hE] at HENC HEL
    have HB64:=hid fun (W:World)=>refBase64_any ⟨E.toArray⟩ W (by
     show (E.toArray.size + 2) / 3 * 4 ≤ _
     have:=HEL.out
     rw [kpath_length] at this
     have:=HH.out
     simp only [List.size_toArray]
     omega)
    rw [show (⟨E.toArray⟩:ByteArray).data.toList = E from rfl] at HB64
    have hb64l:=b64_length E
    have hel:=HEL.out
    rw [kpath_length] at hel
    have hh6:=HH.out
    have hnl64:name.length ≤ 64:=by first | exact HNLEN.out rfl | exact HNLEN.out trivial
    have k1:¬ 9223372036854775807 < note.length + 1 + 4:=by have:=HTL.out; omega
    have k2:¬ 9223372036854775807 < note.length + 1 + 4 + name.length:=by have:=HTL.out; omega
    have k3:¬ 9223372036854775807 < note.length + 1 + 4 + name.length + 1:=by have:=HTL.out; omega
    have k4:¬ 9223372036854775807 < note.length + 1 + 4 + name.length + 1 + (b64 E).length:=by have:=HTL.out; omega
    have k5:¬ 9223372036854775807 < note.length + 1 + 4 + name.length + 1 + (b64 E).length + 1:=by have:=HTL.out; omega
    have HBL:=hid hb64l
    clear hE HSIG hb64l hel hh6 hnl64
    obtain ⟨B64,hB64⟩:∃ B,b64 E = B:=⟨_,rfl⟩
    have HBE:=hid hB64
    rw [hB64] at HB64 k4 k5
    clear hB64
    go_upto_region 18 with (go_at_call 44; refine HENC.out.mono ?_; rintro e w11 ⟨rfl,hb11⟩)
    have hb12:=hb11.trans ((below_one w11 (.cells #[.int .i64 0,.int .i64 0] 38)).mono hb11.size)
    generalize w11.alloc (.cells #[.int .i64 0,.int .i64 0] 38) = w12 at *
    clear hb11 d0 d1 f0 f1 c0 c1 c2
    go_wp2_with (go_at_call 45; refine (HB64.out _).mono ?_; rintro e w13 ⟨rfl,hb13⟩; have hb13:=hb12.trans (hb13.mono hb12.size); have HFE:=hid (HFX1.out.below hb13); obtain ⟨d0,d1,f0,f1⟩:=HFE.out.cells)
    have ho:sgOut s h nx note name = (note ++ [10]) ++ (dashL ++ (name ++ 32 :: (B64 ++ [10]))):=by
     rw [HOUT.out,← HBE.out,← HE.out]
     rfl
    have hbw:Below w.heap.size wX w13:=hb13.mono HBUX.out.size
    have hbz:=(hbw.setCell (p:=⟨w.heap.size,0,none⟩) (Nat.le_refl _) (.int .i64 0)).setCell (p:=⟨w.heap.size,1,none⟩) (Nat.le_refl _) (.int .i64 0)
    have hp:=RSgPost.yes (w0:=w0) (w:=w) (rb:=rb) HC0.out ho (((HKX.out.below hb13).setNew (o:=0) w HK.out (Nat.le_refl _) (.int .i64 0)).setNew (o:=1) w HK.out (Nat.le_refl _) (.int .i64 0)) (HBUX.out.of_new hbz) (HBX1.out.trans (hbz.mono HB0.out.size))
    rw [← line_cat2] at hp
    exact ret_told (u:=6) (p:=7) rfl w.heap.size 0 0 _ (fault_set HFE.out 0 0) rfl rfl rfl hp
end Go.Proofs.YticlgcfodlcpcaaGreatDoor
