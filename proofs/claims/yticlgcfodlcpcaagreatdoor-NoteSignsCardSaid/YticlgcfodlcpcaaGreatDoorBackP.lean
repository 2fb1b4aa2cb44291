/- Plain laws: what cartularyref03 says of Base64,by groups of four,is what text. -/
import Derived.Test.YticlgcfodlcpcaaGreatDoorF64
namespace Go.Proofs.YticlgcfodlcpcaaGreatDoor
open Go.RowKit
def badG (b c:UInt8) (k:Nat) (x:UInt8):Bool:=
 if x = 61 then decide (k < 2) || (decide (k = 2) && decide (idx64 b % 16 ≠ 0)) || (decide (k = 3) && decide (c ≠ 61) && decide (idx64 c % 4 ≠ 0))
 else decide (idx64 x < 0) || (decide (k = 3) && decide (c = 61))
def groupL:List UInt8→Nat
 | []=>0
 | [a]=>if badG 0 0 0 a then 0 else 1
 | [a,b]=>if badG b 0 0 a then 0 else if badG b 0 1 b then 1 else 2
 | [a,b,c]=>if badG b c 0 a then 0 else if badG b c 1 b then 1 else if badG b c 2 c then 2 else 3
 | a :: b :: c :: d :: _=>if badG b c 0 a then 0 else if badG b c 1 b then 1 else if badG b c 2 c then 2 else if badG b c 3 d then 3 else 4
def w64 (n:Nat):Nat→List UInt8→Int
 | i,a :: b :: c :: d :: r=>if groupL [a,b,c,d] < 4 then ((i + groupL [a,b,c,d]:Nat):Int) else if d = 61∧r ≠ [] then ((i + 4:Nat):Int) else w64 n (i + 4) r
 | _,[]=>-1
 | i,g=>if groupL g < g.length then ((i + groupL g:Nat):Int) else (n:Int)
def n4 (a b c d:Nat):Nat:=((a * 64 + b) * 64 + c) * 64 + d
def num64 (c:UInt8):Nat:=(idx64 c).toNat
def dec64:List UInt8→List UInt8
 | a :: b :: c :: d :: r=>
  (if c = 61 then [byteN (n4 (num64 a) (num64 b) 0 0 / 65536)]
   else if d = 61 then [byteN (n4 (num64 a) (num64 b) (num64 c) 0 / 65536),byteN (n4 (num64 a) (num64 b) (num64 c) 0 / 256 % 256)]
   else [byteN (n4 (num64 a) (num64 b) (num64 c) (num64 d) / 65536),byteN (n4 (num64 a) (num64 b) (num64 c) (num64 d) / 256 % 256),byteN (n4 (num64 a) (num64 b) (num64 c) (num64 d) % 256)]) ++ dec64 r
 | _=>[]
theorem gl1 (a:UInt8):groupL [a] = if badG 0 0 0 a then 0 else 1:=rfl
theorem gl2 (a b:UInt8):groupL [a,b] = if badG b 0 0 a then 0 else if badG b 0 1 b then 1 else 2:=rfl
theorem gl3 (a b c:UInt8):groupL [a,b,c] = if badG b c 0 a then 0 else if badG b c 1 b then 1 else if badG b c 2 c then 2 else 3:=rfl
theorem gl4 (a b c d:UInt8):groupL [a,b,c,d] = if badG b c 0 a then 0 else if badG b c 1 b then 1 else if badG b c 2 c then 2 else if badG b c 3 d then 3 else 4:=rfl
theorem wl1 (n i:Nat) (a:UInt8):w64 n i [a] = if groupL [a] < 1 then ((i + groupL [a]:Nat):Int) else (n:Int):=rfl
theorem wl2 (n i:Nat) (a b:UInt8):w64 n i [a,b] = if groupL [a,b] < 2 then ((i + groupL [a,b]:Nat):Int) else (n:Int):=rfl
theorem wl3 (n i:Nat) (a b c:UInt8):w64 n i [a,b,c] = if groupL [a,b,c] < 3 then ((i + groupL [a,b,c]:Nat):Int) else (n:Int):=rfl
theorem idx61:idx64 61 = -1:=by kernel_rfl
theorem byteN_mod (x:Nat):byteN (x % 256) = byteN x:=by
 apply UInt8.toNat_inj.1
 have h1:=byteN_val x
 have h2:=byteN_val (x % 256)
 omega
theorem byteN_congr {x y:Nat} (h:x % 256 = y % 256):byteN x = byteN y:=by rw [← byteN_mod x,h,byteN_mod]
theorem kind64 (c:UInt8):(∃ N:Nat,idx64 c = N∧N < 64∧c ≠ 61) ∨ c = 61 ∨ (idx64 c < 0∧c ≠ 61):=by
 have:=idx64_bd c
 by_cases h:c = 61
 ·exact .inr (.inl h)
 ·by_cases hn:idx64 c < 0
  ·exact .inr (.inr ⟨hn,h⟩)
  ·exact .inl ⟨(idx64 c).toNat,by omega,by omega,h⟩
theorem runB_cons (i b p:Nat) (d:Bool) (out:List UInt8) (c:UInt8) (r:List UInt8):runB i b p d out (c :: r) = match stepB i c b p d out with
  | none=>.error i
  | some (b,p,d,o)=>runB (i + 1) b p d o r:=rfl
theorem endB_err (n i:Nat):endB n (.error i) = .error i:=rfl
theorem r_none2 (k:Nat) (c:UInt8) (b p:Nat) (out r:List UInt8) (hc:idx64 c < 0) (h:c ≠ 61):runB k b p false out (c :: r) = .error k:=by
 rw [runB_cons,stepB_none (by unfold badB; exact .inr (.inl ⟨hc,h⟩))]
theorem r_padl (i:Nat) (c:UInt8) (N b:Nat) (out r:List UInt8) (hN:idx64 c = N):runB (i + 3) b 1 false out (c :: r) = .error (i + 3):=by
 rw [runB_cons,stepB_none (by unfold badB; exact .inr (.inr (.inl ⟨by omega,by omega⟩)))]
section
variable (i:Nat) (hi:i % 4 = 0)
include hi
theorem r_none (c:UInt8) (b:Nat) (out r:List UInt8) (hc:idx64 c < 0):runB i b 0 false out (c :: r) = .error i:=by
 rw [runB_cons,stepB_none (by unfold badB; exact .inr (.inr (.inr ⟨hc,by omega⟩)))]
theorem r_none1 (c:UInt8) (b:Nat) (out r:List UInt8) (hc:idx64 c < 0):runB (i + 1) b 0 false out (c :: r) = .error (i + 1):=by
 rw [runB_cons,stepB_none (by unfold badB; exact .inr (.inr (.inr ⟨hc,by omega⟩)))]
theorem r_let0 (c:UInt8) (N b:Nat) (out r:List UInt8) (hN:idx64 c = N):runB i b 0 false out (c :: r) = runB (i + 1) N 0 false out r:=by
 rw [runB_cons,stepB_let (by unfold badB; simp; omega) hN]
 simp only []
 rw [if_pos (by omega),if_neg (by omega),Nat.zero_mul,Nat.zero_add]
theorem r_let1 (c:UInt8) (N b:Nat) (out r:List UInt8) (hN:idx64 c = N):runB (i + 1) b 0 false out (c :: r) = runB (i + 2) (b * 64 + N) 0 false out r:=by
 rw [runB_cons,stepB_let (by unfold badB; simp; omega) hN]
 simp only []
 rw [if_neg (by omega),if_neg (by omega)]
theorem r_let2 (c:UInt8) (N b:Nat) (out r:List UInt8) (hN:idx64 c = N):runB (i + 2) b 0 false out (c :: r) = runB (i + 3) (b * 64 + N) 0 false out r:=by
 rw [runB_cons,stepB_let (by unfold badB; simp; omega) hN]
 simp only []
 rw [if_neg (by omega),if_neg (by omega)]
theorem r_let3 (c:UInt8) (N b:Nat) (out r:List UInt8) (hN:idx64 c = N):runB (i + 3) b 0 false out (c :: r) = runB (i + 4) (b * 64 + N) 0 false (out ++ [byteN ((b * 64 + N) / 65536),byteN ((b * 64 + N) / 256),byteN (b * 64 + N)]) r:=by
 rw [runB_cons,stepB_let (by unfold badB; simp; omega) hN]
 simp only []
 rw [if_neg (by omega),if_pos (by omega)]
theorem r_pad2 (b:Nat) (out r:List UInt8):runB (i + 2) b 0 false out (61 :: r) = if b % 16 ≠ 0 then .error (i + 2) else runB (i + 3) b 1 false (out ++ [byteN (b / 16)]) r:=by
 rw [runB_cons,stepB_pad2 (by unfold badB; simp [idx61]; omega) (by rw [idx61]; omega) (by omega)]
 by_cases h:b % 16 ≠ 0
 ·rw [if_pos h,if_pos h]
 ·rw [if_neg h,if_neg h]
theorem r_pad3 (b:Nat) (out r:List UInt8):runB (i + 3) b 0 false out (61 :: r) = if b % 4 ≠ 0 then .error (i + 3) else runB (i + 4) b 1 true (out ++ [byteN (b / 1024),byteN (b / 4)]) r:=by
 rw [runB_cons,stepB_pad3 (by unfold badB; simp [idx61]; omega) (by rw [idx61]; omega) (by omega)]
 by_cases h:b % 4 ≠ 0
 ·rw [if_pos h,if_pos h]
 ·rw [if_neg h,if_neg h]
theorem r_padp (b:Nat) (out r:List UInt8):runB (i + 3) b 1 false out (61 :: r) = runB (i + 4) b 2 true out r:=by
 rw [runB_cons,stepB_pads (by unfold badB; simp [idx61]; omega) (by rw [idx61]; omega) (by omega)]
 simp only []
 rw [decide_eq_true (by omega)]
end
theorem r_done (k:Nat) (c:UInt8) (b p:Nat) (out r:List UInt8):runB k b p true out (c :: r) = .error k:=by
 rw [runB_cons,stepB_none (by unfold badB; exact .inl rfl)]
theorem g_let {b c x:UInt8} {N:Nat} {k:Nat} (h:idx64 x = N) (hx:x ≠ 61) (hk:¬ (k = 3∧c = 61)):badG b c k x = false:=by
 unfold badG
 rw [if_neg hx,decide_eq_false (by omega),Bool.false_or]
 simpa using hk
theorem g_non {b c x:UInt8} {k:Nat} (h:idx64 x < 0) (hx:x ≠ 61):badG b c k x = true:=by
 unfold badG
 rw [if_neg hx,decide_eq_true h]; rfl
theorem g_pad01 {b c:UInt8} {k:Nat} (h:k < 2):badG b c k 61 = true:=by
 unfold badG
 rw [if_pos rfl,decide_eq_true h]; rfl
theorem g_pad2 {b c:UInt8} {B:Nat} (h:idx64 b = B):badG b c 2 61 = decide (B % 16 ≠ 0):=by
 unfold badG
 rw [if_pos rfl,h]
 simp
 omega
theorem g_pad3 {b c:UInt8} {C:Nat} (h:idx64 c = C) (hc:c ≠ 61):badG b c 3 61 = decide (C % 4 ≠ 0):=by
 unfold badG
 rw [if_pos rfl,h]
 simp [hc]
 omega
theorem g_pad33 {b:UInt8}:badG b 61 3 61 = false:=by
 unfold badG
 rw [if_pos rfl]
 simp
theorem g_let33 {b x:UInt8} (hx:x ≠ 61):badG b 61 3 x = true:=by
 unfold badG
 rw [if_neg hx]
 simp
def tellR (out:List UInt8) (w:Int) (d:List UInt8):Except Nat (List UInt8):=if w = -1 then .ok (out ++ d) else .error w.toNat
theorem tellR_at (k j:Nat) (h:j = k) (out d:List UInt8):tellR out ((j:Nat):Int) d = .error k:=by
 subst h
 unfold tellR
 rw [if_neg (by omega)]
 simp
theorem w64_4 (n i:Nat) (a b c d:UInt8) (r:List UInt8):w64 n i (a :: b :: c :: d :: r) = if groupL [a,b,c,d] < 4 then ((i + groupL [a,b,c,d]:Nat):Int) else if d = 61∧r ≠ [] then ((i + 4:Nat):Int) else w64 n (i + 4) r:=rfl
theorem w64_lt (n i k:Nat) (a b c d:UInt8) (r:List UInt8) (h:groupL [a,b,c,d] = k) (hk:k < 4):w64 n i (a :: b :: c :: d :: r) = ((i + k:Nat):Int):=by
 rw [w64_4,h,if_pos hk]
theorem end_ok (n:Nat) (out:List UInt8) (h:n % 4 = 0):endB n (.ok out) = .ok out:=by
 show (if n % 4 ≠ 0 then Except.error n else Except.ok out) = _
 rw [if_neg (by omega)]
theorem end_bad (n:Nat) (out:List UInt8) (h:n % 4 ≠ 0):endB n (.ok out) = .error n:=by
 show (if n % 4 ≠ 0 then Except.error n else Except.ok out) = _
 rw [if_pos h]
theorem runB_nil (i b p:Nat) (d:Bool) (out:List UInt8):runB i b p d out [] = .ok out:=rfl
theorem w64_run:∀ (l:List UInt8) (i b0:Nat) (out:List UInt8) (n:Nat),i % 4 = 0→i + l.length = n→endB n (runB i b0 0 false out l) = tellR out (w64 n i l) (dec64 l)
 | [],i,b0,out,n,hi,hn=>by
  rw [runB_nil,end_ok _ _ (by simp at hn; omega)]
  simp [w64,tellR,dec64]
 | [a],i,b0,out,n,hi,hn=>by
  simp only [List.length_cons,List.length_nil] at hn
  rcases kind64 a with ⟨A,hA,_,ha⟩ | rfl | ⟨hA,ha⟩
  ·rw [r_let0 i hi a A b0 out [] hA,runB_nil,end_bad _ _ (by omega)]
   have hg:groupL [a] = 1:=by rw [gl1]; rw [g_let hA ha (by omega)]; rfl
   have hw:w64 n i [a] = ((n:Nat):Int):=by rw [wl1,hg]; simp
   rw [hw,tellR_at n n rfl]
  ·rw [r_none i hi 61 b0 out [] (by rw [idx61]; omega),endB_err]
   have hg:groupL [61] = 0:=by rw [gl1]; rw [g_pad01 (by omega)]; rfl
   have hw:w64 n i [61] = ((i:Nat):Int):=by rw [wl1,hg]; simp
   rw [hw,tellR_at i i rfl]
  ·rw [r_none i hi a b0 out [] hA,endB_err]
   have hg:groupL [a] = 0:=by rw [gl1]; rw [g_non hA ha]; rfl
   have hw:w64 n i [a] = ((i:Nat):Int):=by rw [wl1,hg]; simp
   rw [hw,tellR_at i i rfl]
 | [a,b],i,b0,out,n,hi,hn=>by
  simp only [List.length_cons,List.length_nil] at hn
  rcases kind64 a with ⟨A,hA,_,ha⟩ | rfl | ⟨hA,ha⟩
  ·rw [r_let0 i hi a A b0 out _ hA]
   rcases kind64 b with ⟨B,hB,_,hb⟩ | rfl | ⟨hB,hb⟩
   ·rw [r_let1 i hi b B A out [] hB,runB_nil,end_bad _ _ (by omega)]
    have hg:groupL [a,b] = 2:=by rw [gl2]; rw [g_let hA ha (by omega),g_let hB hb (by omega)]; rfl
    have hw:w64 n i [a,b] = ((n:Nat):Int):=by rw [wl2,hg]; simp
    rw [hw,tellR_at n n rfl]
   ·rw [r_none1 i hi 61 A out [] (by rw [idx61]; omega),endB_err]
    have hg:groupL [a,61] = 1:=by rw [gl2]; rw [g_let hA ha (by omega),g_pad01 (by omega)]; rfl
    have hw:w64 n i [a,61] = ((i + 1:Nat):Int):=by rw [wl2,hg]; simp
    rw [hw,tellR_at (i + 1) (i + 1) rfl]
   ·rw [r_none1 i hi b A out [] hB,endB_err]
    have hg:groupL [a,b] = 1:=by rw [gl2]; rw [g_let hA ha (by omega),g_non hB hb]; rfl
    have hw:w64 n i [a,b] = ((i + 1:Nat):Int):=by rw [wl2,hg]; simp
    rw [hw,tellR_at (i + 1) (i + 1) rfl]
  ·rw [r_none i hi 61 b0 out [b] (by rw [idx61]; omega),endB_err]
   have hg:groupL [61,b] = 0:=by rw [gl2]; rw [g_pad01 (by omega)]; rfl
   have hw:w64 n i [61,b] = ((i:Nat):Int):=by rw [wl2,hg]; simp
   rw [hw,tellR_at i i rfl]
  ·rw [r_none i hi a b0 out [b] hA,endB_err]
   have hg:groupL [a,b] = 0:=by rw [gl2]; rw [g_non hA ha]; rfl
   have hw:w64 n i [a,b] = ((i:Nat):Int):=by rw [wl2,hg]; simp
   rw [hw,tellR_at i i rfl]
 | [a,b,c],i,b0,out,n,hi,hn=>by
  simp only [List.length_cons,List.length_nil] at hn
  rcases kind64 a with ⟨A,hA,_,ha⟩ | rfl | ⟨hA,ha⟩
  rotate_left
  ·
   rw [r_none i hi 61 b0 out _ (by rw [idx61]; omega),endB_err]
   have hg:groupL [61,b,c] = 0:=by rw [gl3]; rw [g_pad01 (by omega)]; rfl
   have hw:w64 n i [61,b,c] = ((i + 0:Nat):Int):=by rw [wl3,hg]; simp
   rw [hw,tellR_at (i + 0) (i + 0) rfl,Nat.add_zero]
  ·
   rw [r_none i hi a b0 out _ hA,endB_err]
   have hg:groupL [a,b,c] = 0:=by rw [gl3]; rw [g_non hA ha]; rfl
   have hw:w64 n i [a,b,c] = ((i + 0:Nat):Int):=by rw [wl3,hg]; simp
   rw [hw,tellR_at (i + 0) (i + 0) rfl,Nat.add_zero]
  rw [r_let0 i hi a A b0 out _ hA]
  rcases kind64 b with ⟨B,hB,_,hb⟩ | rfl | ⟨hB,hb⟩
  rotate_left
  ·
   rw [r_none1 i hi 61 A out _ (by rw [idx61]; omega),endB_err]
   have hg:groupL [a,61,c] = 1:=by rw [gl3]; rw [g_let hA ha (by omega),g_pad01 (by omega)]; rfl
   have hw:w64 n i [a,61,c] = ((i + 1:Nat):Int):=by rw [wl3,hg]; simp
   rw [hw,tellR_at (i + 1) (i + 1) rfl]
  ·
   rw [r_none1 i hi b A out _ hB,endB_err]
   have hg:groupL [a,b,c] = 1:=by rw [gl3]; rw [g_let hA ha (by omega),g_non hB hb]; rfl
   have hw:w64 n i [a,b,c] = ((i + 1:Nat):Int):=by rw [wl3,hg]; simp
   rw [hw,tellR_at (i + 1) (i + 1) rfl]
  rw [r_let1 i hi b B A out _ hB]
  rcases kind64 c with ⟨C,hC,_,hc⟩ | rfl | ⟨hC,hc⟩
  rotate_left
  ·rw [r_pad2 i hi (A * 64 + B) out]
   by_cases hz:B % 16 = 0
   ·rw [if_neg (by omega)]
    rw [runB_nil,end_bad _ _ (by omega)]
    have hg:groupL [a,b,61] = 3:=by rw [gl3]; rw [g_let hA ha (by omega),g_let hB hb (by omega),g_pad2 hB,decide_eq_false (by omega)]; rfl
    have hw:w64 n i [a,b,61] = ((n:Nat):Int):=by rw [wl3,hg]; simp
    rw [hw,tellR_at n n rfl]
   ·
    rw [if_pos (by omega),endB_err]
    have hg:groupL [a,b,61] = 2:=by rw [gl3]; rw [g_let hA ha (by omega),g_let hB hb (by omega),g_pad2 hB,decide_eq_true hz]; rfl
    have hw:w64 n i [a,b,61] = ((i + 2:Nat):Int):=by rw [wl3,hg]; simp
    rw [hw,tellR_at (i + 2) (i + 2) rfl]
  ·
   rw [r_none2 _ c _ _ _ _ hC hc,endB_err]
   have hg:groupL [a,b,c] = 2:=by rw [gl3]; rw [g_let hA ha (by omega),g_let hB hb (by omega),g_non hC hc]; rfl
   have hw:w64 n i [a,b,c] = ((i + 2:Nat):Int):=by rw [wl3,hg]; simp
   rw [hw,tellR_at (i + 2) (i + 2) rfl]
  rw [r_let2 i hi c C _ out _ hC,runB_nil,end_bad _ _ (by omega)]
  have hg:groupL [a,b,c] = 3:=by rw [gl3]; rw [g_let hA ha (by omega),g_let hB hb (by omega),g_let hC hc (by omega)]; rfl
  have hw:w64 n i [a,b,c] = ((n:Nat):Int):=by rw [wl3,hg]; simp
  rw [hw,tellR_at n n rfl]
 | a :: b :: c :: d :: r,i,b0,out,n,hi,hn=>by
  simp only [List.length_cons] at hn
  rcases kind64 a with ⟨A,hA,_,ha⟩ | rfl | ⟨hA,ha⟩
  rotate_left
  ·
   rw [r_none i hi 61 b0 out _ (by rw [idx61]; omega),endB_err]
   rw [w64_lt n i 0 _ _ _ _ r (by rw [gl4]; rw [g_pad01 (by omega)]; rfl) (by omega),tellR_at (i + 0) (i + 0) rfl,Nat.add_zero]
  ·
   rw [r_none i hi a b0 out _ hA,endB_err]
   rw [w64_lt n i 0 _ _ _ _ r (by rw [gl4]; rw [g_non hA ha]; rfl) (by omega),tellR_at (i + 0) (i + 0) rfl,Nat.add_zero]
  rw [r_let0 i hi a A b0 out _ hA]
  rcases kind64 b with ⟨B,hB,_,hb⟩ | rfl | ⟨hB,hb⟩
  rotate_left
  ·
   rw [r_none1 i hi 61 A out _ (by rw [idx61]; omega),endB_err]
   rw [w64_lt n i 1 _ _ _ _ r (by rw [gl4]; rw [g_let hA ha (by omega),g_pad01 (by omega)]; rfl) (by omega),tellR_at (i + 1) (i + 1) rfl]
  ·
   rw [r_none1 i hi b A out _ hB,endB_err]
   rw [w64_lt n i 1 _ _ _ _ r (by rw [gl4]; rw [g_let hA ha (by omega),g_non hB hb]; rfl) (by omega),tellR_at (i + 1) (i + 1) rfl]
  rw [r_let1 i hi b B A out _ hB]
  rcases kind64 c with ⟨C,hC,_,hc⟩ | rfl | ⟨hC,hc⟩
  rotate_left
  ·rw [r_pad2 i hi (A * 64 + B) out]
   by_cases hz:B % 16 = 0
   ·rw [if_neg (by omega)]
    rcases kind64 d with ⟨D,hD,_,hd⟩ | rfl | ⟨hD,hd⟩
    ·
     rw [r_padl i d D _ _ _ hD,endB_err]
     rw [w64_lt n i 3 _ _ _ _ r (by rw [gl4]; rw [g_let hA ha (by omega),g_let hB hb (by omega),g_pad2 hB,decide_eq_false (by omega),g_let33 hd]; rfl) (by omega),tellR_at (i + 3) (i + 3) rfl]
    ·rw [r_padp i hi]
     have hg:groupL [a,b,61,61] = 4:=by rw [gl4]; rw [g_let hA ha (by omega),g_let hB hb (by omega),g_pad2 hB,decide_eq_false (by omega),g_pad33]; rfl
     rw [w64_4,hg,if_neg (by omega)]
     cases r with
     | nil=>
      rw [runB_nil,end_ok _ _ (by simp at hn; omega),if_neg (by simp)]
      simp only [w64,tellR,dec64,if_pos,List.append_nil]
      rw [show byteN (n4 (num64 a) (num64 b) 0 0 / 65536) = byteN ((A * 64 + B) / 16) from byteN_congr (by unfold n4 num64; rw [hA,hB]; simp only [Int.toNat_natCast]; omega)]
     | cons x r=>
      rw [r_done,endB_err,if_pos ⟨rfl,by simp⟩,tellR_at (i + 4) (i + 4) rfl]
    ·
     rw [r_none2 _ d _ _ _ _ hD hd,endB_err]
     rw [w64_lt n i 3 _ _ _ _ r (by rw [gl4]; rw [g_let hA ha (by omega),g_let hB hb (by omega),g_pad2 hB,decide_eq_false (by omega),g_let33 hd]; rfl) (by omega),tellR_at (i + 3) (i + 3) rfl]
   ·
    rw [if_pos (by omega),endB_err]
    rw [w64_lt n i 2 _ _ _ _ r (by rw [gl4]; rw [g_let hA ha (by omega),g_let hB hb (by omega),g_pad2 hB,decide_eq_true hz]; rfl) (by omega),tellR_at (i + 2) (i + 2) rfl]
  ·
   rw [r_none2 _ c _ _ _ _ hC hc,endB_err]
   rw [w64_lt n i 2 _ _ _ _ r (by rw [gl4]; rw [g_let hA ha (by omega),g_let hB hb (by omega),g_non hC hc]; rfl) (by omega),tellR_at (i + 2) (i + 2) rfl]
  rw [r_let2 i hi c C _ out _ hC]
  rcases kind64 d with ⟨D,hD,_,hd⟩ | rfl | ⟨hD,hd⟩
  rotate_left
  ·rw [r_pad3 i hi ((A * 64 + B) * 64 + C) out]
   by_cases hz:C % 4 = 0
   ·rw [if_neg (by omega)]
    have hg:groupL [a,b,c,61] = 4:=by rw [gl4]; rw [g_let hA ha (by omega),g_let hB hb (by omega),g_let hC hc (by omega),g_pad3 hC hc,decide_eq_false (by omega)]; rfl
    rw [w64_4,hg,if_neg (by omega)]
    cases r with
    | nil=>
     rw [runB_nil,end_ok _ _ (by simp at hn; omega),if_neg (by simp)]
     simp only [w64,tellR,dec64,if_pos,List.append_nil]
     rw [if_neg hc,show byteN (n4 (num64 a) (num64 b) (num64 c) 0 / 65536) = byteN (((A * 64 + B) * 64 + C) / 1024) from byteN_congr (by unfold n4 num64; rw [hA,hB,hC]; simp only [Int.toNat_natCast]; omega),
      show byteN (n4 (num64 a) (num64 b) (num64 c) 0 / 256 % 256) = byteN (((A * 64 + B) * 64 + C) / 4) from byteN_congr (by unfold n4 num64; rw [hA,hB,hC]; simp only [Int.toNat_natCast]; omega)]
    | cons x r=>
     rw [r_done,endB_err,if_pos ⟨rfl,by simp⟩,tellR_at (i + 4) (i + 4) rfl]
   ·
    rw [if_pos (by omega),endB_err]
    rw [w64_lt n i 3 _ _ _ _ r (by rw [gl4]; rw [g_let hA ha (by omega),g_let hB hb (by omega),g_let hC hc (by omega),g_pad3 hC hc,decide_eq_true hz]; rfl) (by omega),tellR_at (i + 3) (i + 3) rfl]
  ·
   rw [r_none2 _ d _ _ _ _ hD hd,endB_err]
   rw [w64_lt n i 3 _ _ _ _ r (by rw [gl4]; rw [g_let hA ha (by omega),g_let hB hb (by omega),g_let hC hc (by omega),g_non hD hd]; rfl) (by omega),tellR_at (i + 3) (i + 3) rfl]
  rw [r_let3 i hi d D _ out _ hD]
  have hg:groupL [a,b,c,d] = 4:=by rw [gl4]; rw [g_let hA ha (by omega),g_let hB hb (by omega),g_let hC hc (by omega),g_let hD hd (by rintro ⟨_,h⟩; exact hc h)]; rfl
  rw [w64_4,hg,if_neg (by omega),if_neg (by rintro ⟨h,_⟩; exact hd h),w64_run r (i + 4) _ _ n (by omega) (by omega)]
  have hdec:dec64 (a :: b :: c :: d :: r) = [byteN ((((A * 64 + B) * 64 + C) * 64 + D) / 65536),byteN ((((A * 64 + B) * 64 + C) * 64 + D) / 256),byteN (((A * 64 + B) * 64 + C) * 64 + D)] ++ dec64 r:=by
   conv=>lhs; unfold dec64
   rw [if_neg hc,if_neg hd]
   unfold n4 num64
   rw [hA,hB,hC,hD]
   simp only [Int.toNat_natCast]
   rw [byteN_mod,byteN_mod]
  rw [hdec]
  unfold tellR
  simp only [List.append_assoc]
theorem w64_ge:∀ (l:List UInt8) (n i:Nat),w64 n i l = -1 ∨ 0 ≤ w64 n i l
 | [],n,i=>.inl rfl
 | [a],n,i=>.inr (by rw [wl1]; split <;> omega)
 | [a,b],n,i=>.inr (by rw [wl2]; split <;> omega)
 | [a,b,c],n,i=>.inr (by rw [wl3]; split <;> omega)
 | a :: b :: c :: d :: r,n,i=>by
  rw [w64_4]
  split
  ·exact .inr (by omega)
  ·split
   ·exact .inr (by omega)
   ·exact w64_ge r n (i + 4)
theorem fromB64_ref (l:List UInt8):fromB64 l = if 1048576 < l.length then ([],4,none) else if w64 l.length 0 l = -1 then (dec64 l,0,none) else ([],3,some (w64 l.length 0 l)):=by
 unfold fromB64
 split
 ·rfl
 ·rw [w64_run l 0 0 [] l.length rfl (by omega)]
  unfold tellR
  split
  ·rfl
  ·rename_i h
   have hge:0 ≤ w64 l.length 0 l:=by
    rcases w64_ge l l.length 0 with h' | h'
    ·exact absurd h' h
    ·exact h'
   show ([],3,some (((w64 l.length 0 l).toNat:Nat):Int)) = _
   rw [show (((w64 l.length 0 l).toNat:Nat):Int) = w64 l.length 0 l by omega]
theorem L64_fin:∀ i:Fin 64,Lib.indexByte lettersL (L64 i.val) = i.val∧L64 i.val ≠ 61:=by decide +kernel
theorem idx_L64 (i:Nat) (h:i < 64):idx64 (L64 i) = i∧L64 i ≠ 61:=L64_fin ⟨i,h⟩
theorem byteN_nat (x:Nat):(byteN x).toNat = x % 256:=by
 have:=byteN_val x
 omega
theorem byteN_of (a:UInt8) (x:Nat) (h:x % 256 = a.toNat):byteN x = a:=UInt8.toNat_inj.1 (by rw [byteN_nat,h])
theorem b64_back:∀ (l:List UInt8) (n i:Nat),w64 n i (b64 l) = -1∧dec64 (b64 l) = l
 | [],_,_=>⟨rfl,rfl⟩
 | [a],n,i=>by
  have ha:=UInt8.toNat_lt a
  obtain ⟨e0,n0⟩:=idx_L64 (a.toNat / 4) (by omega)
  obtain ⟨e1,n1⟩:=idx_L64 (a.toNat % 4 * 16) (by omega)
  have hg:groupL [L64 (a.toNat / 4),L64 (a.toNat % 4 * 16),61,61] = 4:=by
   rw [gl4,g_let e0 n0 (by omega),g_let e1 n1 (by omega),g_pad2 e1,decide_eq_false (by omega),g_pad33]; rfl
  unfold b64
  refine ⟨?_,?_⟩
  ·rw [w64_4,hg,if_neg (by omega),if_neg (by simp)]
   rfl
  ·unfold dec64 num64 n4
   rw [if_pos rfl,e0,e1]
   simp only [Int.toNat_natCast,dec64,List.append_nil]
   congr 1
   exact byteN_of a _ (by omega)
 | [a,b],n,i=>by
  have ha:=UInt8.toNat_lt a
  have hb:=UInt8.toNat_lt b
  obtain ⟨e0,n0⟩:=idx_L64 (a.toNat / 4) (by omega)
  obtain ⟨e1,n1⟩:=idx_L64 (a.toNat % 4 * 16 + b.toNat / 16) (by omega)
  obtain ⟨e2,n2⟩:=idx_L64 (b.toNat % 16 * 4) (by omega)
  have hg:groupL [L64 (a.toNat / 4),L64 (a.toNat % 4 * 16 + b.toNat / 16),L64 (b.toNat % 16 * 4),61] = 4:=by
   rw [gl4,g_let e0 n0 (by omega),g_let e1 n1 (by omega),g_let e2 n2 (by omega),g_pad3 e2 n2,decide_eq_false (by omega)]; rfl
  unfold b64
  refine ⟨?_,?_⟩
  ·rw [w64_4,hg,if_neg (by omega),if_neg (by simp)]
   rfl
  ·unfold dec64 num64 n4
   rw [if_neg n2,if_pos rfl,e0,e1,e2]
   simp only [Int.toNat_natCast,dec64,List.append_nil]
   rw [byteN_of a _ (by omega),byteN_of b _ (by omega)]
 | a :: b :: c :: r,n,i=>by
  have hN:=n3_lt a b c
  have hd:n3 a b c / 65536 % 256 = a.toNat∧n3 a b c / 256 % 256 = b.toNat∧n3 a b c % 256 = c.toNat:=by
   have:=UInt8.toNat_lt a; have:=UInt8.toNat_lt b; have:=UInt8.toNat_lt c
   unfold n3; omega
  obtain ⟨e0,n0⟩:=idx_L64 (n3 a b c / 262144 % 64) (by omega)
  obtain ⟨e1,n1⟩:=idx_L64 (n3 a b c / 4096 % 64) (by omega)
  obtain ⟨e2,n2⟩:=idx_L64 (n3 a b c / 64 % 64) (by omega)
  obtain ⟨e3,n3'⟩:=idx_L64 (n3 a b c % 64) (by omega)
  have hg:groupL [L64 (n3 a b c / 262144 % 64),L64 (n3 a b c / 4096 % 64),L64 (n3 a b c / 64 % 64),L64 (n3 a b c % 64)] = 4:=by
   rw [gl4,g_let e0 n0 (by omega),g_let e1 n1 (by omega),g_let e2 n2 (by omega),g_let e3 n3' (by rintro ⟨_,h⟩; exact n2 h)]; rfl
  obtain ⟨h1,h2⟩:=b64_back r n (i + 4)
  unfold b64
  refine ⟨?_,?_⟩
  ·rw [w64_4,hg,if_neg (by omega),if_neg (by rintro ⟨h,_⟩; exact n3' h),h1]
  ·unfold dec64 num64 n4
   rw [if_neg n2,if_neg n3',e0,e1,e2,e3,h2]
   simp only [Int.toNat_natCast]
   rw [byteN_of a _ (by omega),byteN_of b _ (by omega),byteN_of c _ (by omega)]
   rfl
theorem fromB64_b64 (l:List UInt8) (h:(l.length + 2) / 3 * 4 ≤ 1048576):fromB64 (b64 l) = (l,0,none):=by
 obtain ⟨h1,h2⟩:=b64_back l (b64 l).length 0
 rw [fromB64_ref,if_neg (by rw [b64_length]; omega),if_pos h1,h2]
theorem group_ok (a b c d:UInt8) (h:¬ groupL [a,b,c,d] < 4):badG b c 0 a = false∧badG b c 1 b = false∧badG b c 2 c = false∧badG b c 3 d = false:=by
 rw [gl4] at h
 cases h0:badG b c 0 a <;> cases h1:badG b c 1 b <;> cases h2:badG b c 2 c <;> cases h3:badG b c 3 d <;> simp_all
theorem badG_01 {b c x:UInt8} {k:Nat} (hk:k < 2) (h:badG b c k x = false):0 ≤ idx64 x∧x ≠ 61:=by
 unfold badG at h
 split at h
 ·rw [decide_eq_true hk] at h; cases h
 ·rename_i hx
  simp only [Bool.or_eq_false_iff,decide_eq_false_iff_not] at h
  exact ⟨by omega,hx⟩
theorem badG_2 {b c:UInt8} (h:badG b c 2 c = false):(c = 61∧idx64 b % 16 = 0) ∨ (0 ≤ idx64 c∧c ≠ 61):=by
 unfold badG at h
 split at h
 ·rename_i hx
  simp at h
  exact .inl ⟨hx,h⟩
 ·rename_i hx
  simp only [Bool.or_eq_false_iff,decide_eq_false_iff_not] at h
  exact .inr ⟨by omega,hx⟩
theorem badG_3 {b c d:UInt8} (h:badG b c 3 d = false):(d = 61∧(c ≠ 61→idx64 c % 4 = 0)) ∨ (0 ≤ idx64 d∧d ≠ 61∧c ≠ 61):=by
 unfold badG at h
 split at h
 ·rename_i hx
  simp at h
  exact .inl ⟨hx,h⟩
 ·rename_i hx
  simp at h
  exact .inr ⟨by omega,hx,h.2⟩
end Go.Proofs.YticlgcfodlcpcaaGreatDoor
