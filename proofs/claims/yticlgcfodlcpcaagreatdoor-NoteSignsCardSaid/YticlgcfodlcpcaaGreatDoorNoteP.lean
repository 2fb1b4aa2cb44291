/- SHA-256,plain: words,the schedule,a block,the padding,the hash of a text. -/
import Derived.Test.YticlgcfodlcpcaaGreatDoorProg
import Derived.WalkKit
import Derived.IntWalk
import Derived.Deep.QuietTactic
import Derived.BigQuiet
import Derived.Lib.Hide
import Derived.Test.YticlgcfodlcpcaaGreatDoorBackP
import Derived.Test.YticlgcfodlcpcaaGreatDoorSeen
import Derived.Lib.LastIndexLaws
import Derived.Lib.IndexMore
namespace Go.Proofs.YticlgcfodlcpcaaGreatDoor
open Go.Lib (hid byteCells)
open Go.RowKit
def rotN (x n:Nat):Nat:=(x / 2 ^ n) ||| (x * 2 ^ (32 - n) % 4294967296)
theorem rotN_lt {x n:Nat} (hx:x < 4294967296):rotN x n < 4294967296:=by
 unfold rotN
 have h1:x / 2 ^ n < 2 ^ 32:=Nat.lt_of_le_of_lt (Nat.div_le_self ..) hx
 have h2:x * 2 ^ (32 - n) % 4294967296 < 2 ^ 32:=Nat.mod_lt _ (by decide)
 exact Nat.or_lt_two_pow h1 h2
def sg0 (x:Nat):Nat:=rotN x 7 ^^^ rotN x 18 ^^^ (x / 8)
def sg1 (x:Nat):Nat:=rotN x 17 ^^^ rotN x 19 ^^^ (x / 1024)
def bg0 (x:Nat):Nat:=rotN x 2 ^^^ rotN x 13 ^^^ rotN x 22
def bg1 (x:Nat):Nat:=rotN x 6 ^^^ rotN x 11 ^^^ rotN x 25
def chN (e f g:Nat):Nat:=(e &&& f) ^^^ ((4294967295 ^^^ e) &&& g)
def mjN (a b c:Nat):Nat:=(a &&& b) ^^^ (a &&& c) ^^^ (b &&& c)
def nextW (l:List Nat) (t:Nat):Nat:=(l.getD (t - 16) 0 + sg0 (l.getD (t - 15) 0) + l.getD (t - 7) 0 + sg1 (l.getD (t - 2) 0)) % 4294967296
def word4 (a b c d:UInt8):Nat:=a.toNat * 16777216 + b.toNat * 65536 + c.toNat * 256 + d.toNat
def wordsOf:List UInt8→List Nat
 | a :: b :: c :: d :: r=>word4 a b c d :: wordsOf r
 | _=>[]
def sched (b:List UInt8):Nat→List Nat
 | 0=>wordsOf b
 | k + 1=>sched b k ++ [nextW (sched b k) (16 + k)]
structure St where
 (a b c d e f g h:Nat)
def St.rnd (s:St) (k w:Nat):St:=
 let x:=(s.h + bg1 s.e + chN s.e s.f s.g + k + w) % 4294967296
 let y:=(bg0 s.a + mjN s.a s.b s.c) % 4294967296
 ⟨(x + y) % 4294967296,s.a,s.b,s.c,(s.d + x) % 4294967296,s.e,s.f,s.g⟩
def shaK:List Nat:=[0x428a2f98,0x71374491,0xb5c0fbcf,0xe9b5dba5,0x3956c25b,0x59f111f1,0x923f82a4,0xab1c5ed5,
 0xd807aa98,0x12835b01,0x243185be,0x550c7dc3,0x72be5d74,0x80deb1fe,0x9bdc06a7,0xc19bf174,
 0xe49b69c1,0xefbe4786,0x0fc19dc6,0x240ca1cc,0x2de92c6f,0x4a7484aa,0x5cb0a9dc,0x76f988da,
 0x983e5152,0xa831c66d,0xb00327c8,0xbf597fc7,0xc6e00bf3,0xd5a79147,0x06ca6351,0x14292967,
 0x27b70a85,0x2e1b2138,0x4d2c6dfc,0x53380d13,0x650a7354,0x766a0abb,0x81c2c92e,0x92722c85,
 0xa2bfe8a1,0xa81a664b,0xc24b8b70,0xc76c51a3,0xd192e819,0xd6990624,0xf40e3585,0x106aa070,
 0x19a4c116,0x1e376c08,0x2748774c,0x34b0bcb5,0x391c0cb3,0x4ed8aa4a,0x5b9cca4f,0x682e6ff3,
 0x748f82ee,0x78a5636f,0x84c87814,0x8cc70208,0x90befffa,0xa4506ceb,0xbef9a3f7,0xc67178f2]
def St.run (W:List Nat) (s:St):Nat→St
 | 0=>s
 | t + 1=>(s.run W t).rnd (shaK.getD t 0) (W.getD t 0)
def St.add (s v:St):St:=⟨(s.a + v.a) % 4294967296,(s.b + v.b) % 4294967296,(s.c + v.c) % 4294967296,(s.d + v.d) % 4294967296,(s.e + v.e) % 4294967296,(s.f + v.f) % 4294967296,(s.g + v.g) % 4294967296,(s.h + v.h) % 4294967296⟩
def St.block (s:St) (b:List UInt8):St:=s.add (s.run (sched b 48) 64)
def St.start:St:=⟨0x6a09e667,0xbb67ae85,0x3c6ef372,0xa54ff53a,0x510e527f,0x9b05688c,0x1f83d9ab,0x5be0cd19⟩
def St.blocks (s:St) (m:List UInt8):Nat→St
 | 0=>s
 | n + 1=>(s.blocks m n).block ((m.drop (64 * n)).take 64)
def zerosN (len:Nat):Nat:=(119 - len % 64) % 64
def lenBytes (n:Nat):List UInt8:=[56,48,40,32,24,16,8,0].map fun k=>UInt8.ofNat (n * 8 % 18446744073709551616 / 2 ^ k % 256)
def tailOf (len:Nat):List UInt8:=128 :: (List.replicate (zerosN len) 0 ++ lenBytes len)
def padL (m:List UInt8):List UInt8:=m ++ tailOf m.length
def bytes4 (n:Nat):List UInt8:=[UInt8.ofNat (n / 16777216),UInt8.ofNat (n / 65536 % 256),UInt8.ofNat (n / 256 % 256),UInt8.ofNat (n % 256)]
def St.out (s:St):List UInt8:=bytes4 s.a ++ bytes4 s.b ++ bytes4 s.c ++ bytes4 s.d ++ bytes4 s.e ++ bytes4 s.f ++ bytes4 s.g ++ bytes4 s.h
def shaL (m:List UInt8):List UInt8:=(St.start.blocks (padL m) ((padL m).length / 64)).out
theorem shaL_len (m:List UInt8):(shaL m).length = 32:=rfl
structure St.Ok (s:St):Prop where
 a:s.a < 4294967296
 b:s.b < 4294967296
 c:s.c < 4294967296
 d:s.d < 4294967296
 e:s.e < 4294967296
 f:s.f < 4294967296
 g:s.g < 4294967296
 h:s.h < 4294967296
theorem St.Ok.rnd {s:St} (h:s.Ok) (k w:Nat):(s.rnd k w).Ok:=⟨Nat.mod_lt _ (by decide),h.a,h.b,h.c,Nat.mod_lt _ (by decide),h.e,h.f,h.g⟩
theorem St.Ok.run {s:St} (h:s.Ok) (W:List Nat):∀ t,(s.run W t).Ok
 | 0=>h
 | t + 1=>(St.Ok.run h W t).rnd _ _
theorem St.Ok.add (s v:St):(s.add v).Ok:=⟨Nat.mod_lt _ (by decide),Nat.mod_lt _ (by decide),Nat.mod_lt _ (by decide),Nat.mod_lt _ (by decide),Nat.mod_lt _ (by decide),Nat.mod_lt _ (by decide),Nat.mod_lt _ (by decide),Nat.mod_lt _ (by decide)⟩
theorem St.Ok.block (s:St) (b:List UInt8):(s.block b).Ok:=St.Ok.add _ _
theorem St.Ok.start:St.start.Ok:=⟨by decide,by decide,by decide,by decide,by decide,by decide,by decide,by decide⟩
theorem St.Ok.blocks {s:St} (h:s.Ok) (m:List UInt8):∀ n,(s.blocks m n).Ok
 | 0=>h
 | _ + 1=>St.Ok.block _ _
theorem wordsOf_len:∀ (n:Nat) (b:List UInt8),b.length = 4 * n→(wordsOf b).length = n
 | 0,[],_=>rfl
 | n + 1,a :: b :: c :: d :: r,h=>by
  rw [wordsOf,List.length_cons,wordsOf_len n r (by simp at h; omega)]
theorem wordsOf_get:∀ (n:Nat) (b:List UInt8),b.length = 4 * n→∀ t,t < n→∃ x y z u,b[4 * t]? = some x∧b[4 * t + 1]? = some y∧b[4 * t + 2]? = some z∧b[4 * t + 3]? = some u∧(wordsOf b)[t]? = some (word4 x y z u)
 | n + 1,a :: b :: c :: d :: r,h,0,_=>⟨a,b,c,d,rfl,rfl,rfl,rfl,rfl⟩
 | n + 1,a :: b :: c :: d :: r,h,t + 1,ht=>by
  obtain ⟨x,y,z,u,h0,h1,h2,h3,h4⟩:=wordsOf_get n r (by simp at h; omega) t (by omega)
  refine ⟨x,y,z,u,?_,?_,?_,?_,h4⟩
  ·rw [show 4 * (t + 1) = 4 * t + 4 by omega]; exact h0
  ·rw [show 4 * (t + 1) + 1 = 4 * t + 1 + 4 by omega]; exact h1
  ·rw [show 4 * (t + 1) + 2 = 4 * t + 2 + 4 by omega]; exact h2
  ·rw [show 4 * (t + 1) + 3 = 4 * t + 3 + 4 by omega]; exact h3
theorem word4_lt (a b c d:UInt8):word4 a b c d < 4294967296:=by
 have:=UInt8.toNat_lt a
 have:=UInt8.toNat_lt b
 have:=UInt8.toNat_lt c
 have:=UInt8.toNat_lt d
 unfold word4
 omega
theorem sched_len (b:List UInt8) (h:b.length = 64):∀ k,(sched b k).length = 16 + k
 | 0=>wordsOf_len 16 b (by omega)
 | k + 1=>by rw [sched,List.length_append,sched_len b h k]; rfl
theorem sched_lt (b:List UInt8) (h:b.length = 64):∀ k,∀ x ∈ sched b k,x < 4294967296
 | 0,x,hx=>by
  obtain ⟨i,hi,rfl⟩:=List.mem_iff_getElem.1 hx
  have hl:=sched_len b h 0
  obtain ⟨p,q,r,s,_,_,_,_,e⟩:=wordsOf_get 16 b (by omega) i (by omega)
  have:(sched b 0)[i] = word4 p q r s:=by
   have e2:(sched b 0)[i]? = some (word4 p q r s):=e
   rw [List.getElem?_eq_getElem hi] at e2
   exact Option.some.inj e2
  rw [this]
  exact word4_lt ..
 | k + 1,x,hx=>by
  rw [sched,List.mem_append] at hx
  rcases hx with hx | hx
  ·exact sched_lt b h k x hx
  ·rw [List.mem_singleton.1 hx]
   exact Nat.mod_lt _ (by decide)
theorem padL_len (m:List UInt8):(padL m).length % 64 = 0:=by
 unfold padL tailOf lenBytes zerosN
 simp only [List.length_append,List.length_cons,List.length_replicate,List.length_map,List.length_nil]
 omega
theorem bv_nat {a:Nat} (h:a < 4294967296):(BitVec.ofInt 32 (a:Int)).toNat = a:=by
 rw [BitVec.toNat_ofInt]
 omega
theorem wrap_u32 (n:Int):IntKind.wrap .u32 n = n % 4294967296:=rfl
theorem wrap_nat (a:Nat):IntKind.wrap .u32 (a:Int) = ((a % 4294967296:Nat):Int):=by
 rw [wrap_u32]
 omega
theorem bits_xor {a b:Nat} (ha:a < 4294967296) (hb:b < 4294967296):bits .xor .u32 (a:Int) (b:Int) = ((a ^^^ b:Nat):Int):=by
 have h:a ^^^ b < 2 ^ 32:=Nat.xor_lt_two_pow ha hb
 show IntKind.wrap .u32 (((BitVec.ofInt 32 (a:Int) ^^^ BitVec.ofInt 32 (b:Int)).toNat:Nat):Int) = _
 rw [BitVec.toNat_xor,bv_nat ha,bv_nat hb,wrap_nat,Nat.mod_eq_of_lt h]
theorem bits_and {a b:Nat} (ha:a < 4294967296) (hb:b < 4294967296):bits .and .u32 (a:Int) (b:Int) = ((a &&& b:Nat):Int):=by
 have h:a &&& b < 2 ^ 32:=Nat.and_lt_two_pow _ hb
 show IntKind.wrap .u32 (((BitVec.ofInt 32 (a:Int) &&& BitVec.ofInt 32 (b:Int)).toNat:Nat):Int) = _
 rw [BitVec.toNat_and,bv_nat ha,bv_nat hb,wrap_nat,Nat.mod_eq_of_lt h]
theorem bits_or {a b:Nat} (ha:a < 4294967296) (hb:b < 4294967296):bits .or .u32 (a:Int) (b:Int) = ((a ||| b:Nat):Int):=by
 have h:a ||| b < 2 ^ 32:=Nat.or_lt_two_pow ha hb
 show IntKind.wrap .u32 (((BitVec.ofInt 32 (a:Int) ||| BitVec.ofInt 32 (b:Int)).toNat:Nat):Int) = _
 rw [BitVec.toNat_or,bv_nat ha,bv_nat hb,wrap_nat,Nat.mod_eq_of_lt h]
theorem or_mul (k:Nat) (a b:Nat) (hb:b < 2 ^ k):a * 2 ^ k ||| b = a * 2 ^ k + b:=by
 rw [Nat.mul_comm,← Nat.two_pow_add_eq_or_of_lt hb]
theorem word4_or (a b c d:UInt8):((a.toNat * 16777216 ||| b.toNat * 65536) ||| c.toNat * 256) ||| d.toNat = word4 a b c d:=by
 have h1:=UInt8.toNat_lt a
 have h2:=UInt8.toNat_lt b
 have h3:=UInt8.toNat_lt c
 have h4:=UInt8.toNat_lt d
 have e1:=or_mul 24 a.toNat (b.toNat * 65536) (by omega)
 have e2:=or_mul 16 (a.toNat * 256 + b.toNat) (c.toNat * 256) (by omega)
 have e3:=or_mul 8 ((a.toNat * 256 + b.toNat) * 256 + c.toNat) d.toNat (by omega)
 unfold word4
 rw [show (16777216:Nat) = 2 ^ 24 from rfl,e1,show a.toNat * 2 ^ 24 + b.toNat * 65536 = (a.toNat * 256 + b.toNat) * 2 ^ 16 by omega,e2,
  show (a.toNat * 256 + b.toNat) * 2 ^ 16 + c.toNat * 256 = ((a.toNat * 256 + b.toNat) * 256 + c.toNat) * 2 ^ 8 by omega,e3]
theorem turn_any (x n:Nat) (hx:x < 4294967296) (h1:1 ≤ n) (h2:n ≤ 31) (w:World) :
  Calls Tryz.prog 155 #[.int .u32 (x:Int),.int .i64 (n:Int)] w fun e w'=>e = .returned (.int .u32 ((rotN x n:Nat):Int))∧∃ q,w' = w.drewN q:=by
 have hd:((x:Int) / 2 ^ n) = ((x / 2 ^ n:Nat):Int):=by rw [Int.natCast_ediv]; rfl
 have hm:((x:Int) * 2 ^ (32 - n) % 4294967296) = ((x * 2 ^ (32 - n) % 4294967296:Nat):Int):=by rw [Int.natCast_emod,Int.natCast_mul,Int.natCast_pow]; rfl
 have hb:=bits_or (a:=x / 2 ^ n) (b:=x * 2 ^ (32 - n) % 4294967296) (Nat.lt_of_le_of_lt (Nat.div_le_self ..) hx) (Nat.mod_lt _ (by decide))
 rw [← hd,← hm] at hb
 have HB:=hid hb
 clear hd hm hb
 go_enter Tryz.func155,Tryz.ntmps155
 go_wp2_with fail
 go_quiet (fail)
 go_wp2_with fail
 go_ret
 refine ⟨?_,nq,rfl⟩
 show Ending.returned (Value.int IntKind.u32 (bits BinOp.or IntKind.u32 ((x:Int) / 2 ^ n) ((x:Int) * 2 ^ (32 - n) % 4294967296))) = _
 rw [HB.out]
 rfl
theorem turn_at (x n:Nat) (k:Int) (hk:k = (n:Int)) (hx:x < 4294967296) (h1:1 ≤ n) (h2:n ≤ 31) (w:World) :
  Calls Tryz.prog 155 #[.int .u32 (x:Int),.int .i64 k] w fun e w'=>e = .returned (.int .u32 ((rotN x n:Nat):Int))∧∃ q,w' = w.drewN q:=by
 subst hk
 exact turn_any x n hx h1 h2 w
theorem quiet_add {P:Program} {f:FuncId} {args:Array Value} {w:World} {a n:Nat} {v:Value}
  (h:Calls P f args (w.drewN (a + n)) fun e w'=>e = .returned v∧∃ m,w' = (w.drewN (a + n)).drewN m) :
  Calls P f args (w.drewN (a + n)) fun e w''=>e = .returned v∧∃ m,w'' = w.drewN (a + m):=
 h.mono fun _ _ ⟨he,m,hm⟩=>⟨he,n + m,by rw [hm,World.drewN_drewN,Nat.add_assoc]⟩
theorem xor_lt32 {a b:Nat} (ha:a < 4294967296) (hb:b < 4294967296):a ^^^ b < 4294967296:=Nat.xor_lt_two_pow (n:=32) ha hb
theorem and_lt32 {a b:Nat} (hb:b < 4294967296):a &&& b < 4294967296:=Nat.and_lt_two_pow (n:=32) _ hb
theorem div_cast (x k:Nat):((x:Int) / (k:Int)) = ((x / k:Nat):Int):=by rw [Int.natCast_ediv]
theorem sg0_bits {x:Nat} (h:x < 4294967296):bits .xor .u32 (bits .xor .u32 ((rotN x 7:Nat):Int) ((rotN x 18:Nat):Int)) ((x:Int) / 8) = ((sg0 x:Nat):Int):=by
 rw [bits_xor (rotN_lt h) (rotN_lt h),show ((x:Int) / 8) = ((x / 8:Nat):Int) from div_cast x 8,bits_xor (xor_lt32 (rotN_lt h) (rotN_lt h)) (by omega)]
 rfl
theorem sg1_bits {x:Nat} (h:x < 4294967296):bits .xor .u32 (bits .xor .u32 ((rotN x 17:Nat):Int) ((rotN x 19:Nat):Int)) ((x:Int) / 1024) = ((sg1 x:Nat):Int):=by
 rw [bits_xor (rotN_lt h) (rotN_lt h),show ((x:Int) / 1024) = ((x / 1024:Nat):Int) from div_cast x 1024,bits_xor (xor_lt32 (rotN_lt h) (rotN_lt h)) (by omega)]
 rfl
theorem bg0_bits {x:Nat} (h:x < 4294967296):bits .xor .u32 (bits .xor .u32 ((rotN x 2:Nat):Int) ((rotN x 13:Nat):Int)) ((rotN x 22:Nat):Int) = ((bg0 x:Nat):Int):=by
 rw [bits_xor (rotN_lt h) (rotN_lt h),bits_xor (xor_lt32 (rotN_lt h) (rotN_lt h)) (rotN_lt h)]
 rfl
theorem bg1_bits {x:Nat} (h:x < 4294967296):bits .xor .u32 (bits .xor .u32 ((rotN x 6:Nat):Int) ((rotN x 11:Nat):Int)) ((rotN x 25:Nat):Int) = ((bg1 x:Nat):Int):=by
 rw [bits_xor (rotN_lt h) (rotN_lt h),bits_xor (xor_lt32 (rotN_lt h) (rotN_lt h)) (rotN_lt h)]
 rfl
theorem ch_bits {e f g:Nat} (he:e < 4294967296) (hf:f < 4294967296) (hg:g < 4294967296):bits .xor .u32 (bits .and .u32 (e:Int) (f:Int)) (bits .and .u32 (bits .xor .u32 4294967295 (e:Int)) (g:Int)) = ((chN e f g:Nat):Int):=by
 rw [bits_and he hf,show (4294967295:Int) = ((4294967295:Nat):Int) from rfl,bits_xor (by decide) he,bits_and (xor_lt32 (by decide) he) hg,bits_xor (and_lt32 hf) (and_lt32 hg)]
 rfl
theorem mj_bits {a b c:Nat} (ha:a < 4294967296) (hb:b < 4294967296) (hc:c < 4294967296):bits .xor .u32 (bits .xor .u32 (bits .and .u32 (a:Int) (b:Int)) (bits .and .u32 (a:Int) (c:Int))) (bits .and .u32 (b:Int) (c:Int)) = ((mjN a b c:Nat):Int):=by
 rw [bits_and ha hb,bits_and ha hc,bits_and hb hc,bits_xor (and_lt32 hb) (and_lt32 hc),bits_xor (xor_lt32 (and_lt32 hb) (and_lt32 hc)) (and_lt32 hc)]
 rfl
end Go.Proofs.YticlgcfodlcpcaaGreatDoor
namespace Go.Proofs.YticlgcfodlcpcaaGreatDoor
open Go.Lib (hid byteCells)
def chainF:Nat→List UInt8→List UInt8
 | 0,h=>h
 | n + 1,h=>shaL (2 :: chainF n h)
theorem chainF_len (n:Nat) (h:List UInt8) (hh:h.length = 32):(chainF n h).length = 32:=by
 cases n with
 | zero=>exact hh
 | succ n=>exact shaL_len _
theorem chainF_add (a b:Nat) (h:List UInt8):chainF b (chainF a h) = chainF (a + b) h:=by
 induction b with
 | zero=>rfl
 | succ b ih=>rw [chainF,ih]; rfl
def be2 (i:Nat):List UInt8:=[UInt8.ofNat (i / 256),UInt8.ofNat i]
def be4 (i:Nat):List UInt8:=[UInt8.ofNat (i / 16777216),UInt8.ofNat (i / 65536),UInt8.ofNat (i / 256),UInt8.ofNat i]
def beginF (s:List UInt8) (i:Nat):List UInt8:=shaL (3 :: (s ++ be2 i))
theorem beginF_len (s:List UInt8) (i:Nat):(beginF s i).length = 32:=shaL_len _
def endF (l:List (List UInt8)):List UInt8:=shaL (4 :: l.flatten)
def nib (m:List UInt8) (i:Nat):Nat:=if i % 2 = 0 then (m.getD (i / 2) 0).toNat / 16 else (m.getD (i / 2) 0).toNat % 16
def nibSum (m:List UInt8):Nat→Nat
 | 0=>0
 | k + 1=>nibSum m k + (15 - nib m k)
def dig (m:List UInt8) (i:Nat):Nat:=if i < 64 then nib m i else nibSum m 64 / 16 ^ (66 - i) % 16
theorem nib_le (m:List UInt8) (i:Nat):nib m i ≤ 15:=by
 unfold nib
 have:=(m.getD (i / 2) 0).toNat_lt
 split <;> omega
theorem nibSum_le (m:List UInt8):∀ k,nibSum m k ≤ 15 * k
 | 0=>Nat.le_refl _
 | k + 1=>by
  have:=nibSum_le m k
  rw [nibSum]
  omega
theorem dig_le (m:List UInt8) (i:Nat):dig m i ≤ 15:=by
 unfold dig
 split
 ·exact nib_le m i
 ·omega
def signF (s m:List UInt8):List (List UInt8):=(List.range 67).map fun i=>chainF (dig m i) (beginF s i)
def recoverF (m:List UInt8) (c:List (List UInt8)):List UInt8:=endF ((List.range 67).map fun i=>chainF (15 - dig m i) (c.getD i []))
def publicF (s:List UInt8):List UInt8:=endF ((List.range 67).map fun i=>chainF 15 (beginF s i))
theorem publicF_len (s:List UInt8):(publicF s).length = 32:=shaL_len _
theorem recoverF_len (m:List UInt8) (c:List (List UInt8)):(recoverF m c).length = 32:=shaL_len _
theorem signF_length (s m:List UInt8):(signF s m).length = 67:=by simp [signF]
theorem signF_len (s m:List UInt8):∀ h ∈ signF s m,h.length = 32:=by
 intro h hh
 simp only [signF,List.mem_map] at hh
 obtain ⟨i,_,rfl⟩:=hh
 exact chainF_len _ _ (beginF_len _ _)
theorem recover_sign (s m:List UInt8):recoverF m (signF s m) = publicF s:=by
 unfold recoverF publicF
 congr 1
 refine List.map_congr_left fun i hi=>?_
 have hi':i < 67:=List.mem_range.1 hi
 have e:(signF s m).getD i [] = chainF (dig m i) (beginF s i):=by
  unfold signF
  rw [List.getD_eq_getElem?_getD,List.getElem?_map,List.getElem?_range hi']
  rfl
 rw [e,chainF_add,show dig m i + (15 - dig m i) = 15 by have:=dig_le m i; omega]
def ownF (s:List UInt8) (i:Nat):List UInt8:=shaL (5 :: (s ++ be4 i))
def msgF (i:Nat) (t:List UInt8):List UInt8:=shaL (6 :: (be4 i ++ t))
def knode (s:List UInt8):Nat→Nat→List UInt8
 | 0,i=>shaL (0 :: publicF (ownF s i))
 | j + 1,i=>shaL (1 :: (knode s j (2 * i) ++ knode s j (2 * i + 1)))
theorem knode_len (s:List UInt8) (j i:Nat):(knode s j i).length = 32:=by cases j <;> exact shaL_len _
def sib (n:Nat):Nat:=if n % 2 = 0 then n + 1 else n - 1
def kpath (s:List UInt8) (h i:Nat):List (List UInt8):=(List.range h).map fun j=>knode s j (sib (i / 2 ^ j))
theorem kpath_length (s:List UInt8) (h i:Nat):(kpath s h i).length = h:=by simp [kpath]
theorem kpath_len (s:List UInt8) (h i:Nat):∀ x ∈ kpath s h i,x.length = 32:=by
 intro x hx
 simp only [kpath,List.mem_map] at hx
 obtain ⟨j,_,rfl⟩:=hx
 exact knode_len _ _ _
def upF:Nat→Nat→Nat→Nat × Nat
 | 0,n,l=>(n,l)
 | f + 1,n,l=>if n % 2 = 0∧n ≠ 0 then upF f (n / 2) (l / 2) else (n,l)
def rootF:Nat→Nat→List UInt8→List (List UInt8)→Option (List UInt8)
 | _,last,h,[]=>if last = 0 then some h else none
 | n,last,h,p :: r=>
  if last = 0 then none
  else if n % 2 = 1 ∨ n = last then rootF ((upF 64 n last).1 / 2) ((upF 64 n last).2 / 2) (shaL (1 :: (p ++ h))) r
  else rootF (n / 2) (last / 2) (shaL (1 :: (h ++ p))) r
theorem upF_odd (f n l:Nat) (h:n % 2 = 1):upF f n l = (n,l):=by
 cases f with
 | zero=>rfl
 | succ f=>rw [upF,if_neg (by omega)]
theorem root_kpath (s:List UInt8) (h i:Nat) (hi:i < 2 ^ h) :
  ∀ d j,j + d = h→rootF (i / 2 ^ j) (2 ^ d - 1) (knode s j (i / 2 ^ j)) ((kpath s h i).drop j) = some (knode s h 0)
 | 0,j,e=>by
  obtain rfl:j = h:=by omega
  rw [List.drop_of_length_le (by rw [kpath_length]; omega),Nat.div_eq_of_lt hi]
  rfl
 | d + 1,j,e=>by
  have ih:=root_kpath s h i hi d (j + 1) (by omega)
  have hj:j < h:=by omega
  have hd:(kpath s h i).drop j = knode s j (sib (i / 2 ^ j)) :: (kpath s h i).drop (j + 1):=by
   rw [List.drop_eq_getElem_cons (by rw [kpath_length]; exact hj)]
   congr 1
   simp [kpath]
  have hp:1 ≤ 2 ^ d:=Nat.one_le_two_pow
  have hlast:2 ^ (d + 1) - 1 ≠ 0:=by rw [Nat.pow_succ]; omega
  have hhalf:(2 ^ (d + 1) - 1) / 2 = 2 ^ d - 1:=by rw [Nat.pow_succ]; omega
  have hdiv:i / 2 ^ (j + 1) = i / 2 ^ j / 2:=by rw [Nat.pow_succ,Nat.div_div_eq_div_mul]
  rw [hd,rootF,if_neg hlast]
  rw [hdiv] at ih
  rw [knode] at ih
  by_cases ho:i / 2 ^ j % 2 = 1
  ·rw [if_pos (Or.inl ho),upF_odd _ _ _ ho]
   have h1:2 * (i / 2 ^ j / 2) + 1 = i / 2 ^ j:=by omega
   have h2:sib (i / 2 ^ j) = 2 * (i / 2 ^ j / 2):=by unfold sib; rw [if_neg (by omega)]; omega
   rw [h2]
   rw [h1] at ih
   simp only [hhalf]
   exact ih
  ·have hlt:i / 2 ^ j < 2 ^ (d + 1):=by
    rw [Nat.div_lt_iff_lt_mul (Nat.two_pow_pos j),← Nat.pow_add,show d + 1 + j = h by omega]
    exact hi
   have hne:¬ i / 2 ^ j = 2 ^ (d + 1) - 1:=by rw [Nat.pow_succ]; rw [Nat.pow_succ] at hlt; omega
   rw [if_neg (by rintro (h | h); exact ho h; exact hne h)]
   have h1:2 * (i / 2 ^ j / 2) = i / 2 ^ j:=by omega
   have h2:sib (i / 2 ^ j) = 2 * (i / 2 ^ j / 2) + 1:=by unfold sib; rw [if_pos (by omega)]; omega
   rw [h2]
   rw [h1] at ih
   rw [hhalf]
   simp only [h1]
   exact ih
def mayF (idx:Int) (c p:List (List UInt8)):Bool:=decide (0 ≤ idx) && decide (idx ≤ 63) && decide (c.length = 67) && decide (p.length ≤ 6)
def verF (pub:List UInt8) (height:Int) (t:List UInt8) (idx:Int) (c p:List (List UInt8)):Nat:=
 if height < 0 ∨ 6 < height ∨ mayF idx c p = false ∨ (2 ^ height.toNat:Int) ≤ idx ∨ (p.length:Int) ≠ height then 2
 else if rootF idx.toNat (2 ^ height.toNat - 1) (shaL (0 :: recoverF (msgF idx.toNat t) c)) p = some pub then 0 else 12
theorem ver_sign (s t:List UInt8) (h i:Nat) (hh:h ≤ 6) (hi:i < 2 ^ h) :
  verF (knode s h 0) h t i (signF (ownF s i) (msgF i t)) (kpath s h i) = 0:=by
 have h64:2 ^ h ≤ 2 ^ 6:=Nat.pow_le_pow_right (by omega) hh
 have hr:=root_kpath s h i hi h 0 (by omega)
 rw [Nat.pow_zero,Nat.div_one,List.drop_zero,knode] at hr
 have hm:mayF i (signF (ownF s i) (msgF i t)) (kpath s h i) = true:=by
  have i1:decide ((0:Int) ≤ (i:Int)) = true:=decide_eq_true (by omega)
  have i2:decide ((i:Int) ≤ 63) = true:=decide_eq_true (by omega)
  have i3:decide (h ≤ 6) = true:=decide_eq_true hh
  rw [mayF,signF_length,kpath_length,i1,i2,i3]
  rfl
 unfold verF
 rw [if_neg,Int.toNat_natCast,Int.toNat_natCast,recover_sign,if_pos hr]
 rw [hm,kpath_length]
 rintro (a | a | a | a | a)
 ·omega
 ·omega
 ·cases a
 ·rw [Int.toNat_natCast] at a
  have h2:(((2 ^ h:Nat)):Int) = (2:Int) ^ h:=by push_cast; rfl
  rw [← h2] at a
  omega
 ·exact a rfl
end Go.Proofs.YticlgcfodlcpcaaGreatDoor
namespace Go.Proofs.YticlgcfodlcpcaaGreatDoor
open Go.Lib (hid byteCells)
def leafT (x:List UInt8):List UInt8:=0 :: x
end Go.Proofs.YticlgcfodlcpcaaGreatDoor
namespace Go.Proofs.YticlgcfodlcpcaaGreatDoor
open Go.Lib (hid byteCells)
end Go.Proofs.YticlgcfodlcpcaaGreatDoor
namespace Go.Proofs.YticlgcfodlcpcaaGreatDoor
open Go.Lib (hid byteCells)
end Go.Proofs.YticlgcfodlcpcaaGreatDoor
namespace Go.Proofs.YticlgcfodlcpcaaGreatDoor
open Go.Lib (hid byteCells)
def rdVar (i:Nat):List UInt8→Option (Nat × List UInt8)
 | []=>none
 | c :: r=>if (i = 9∧1 < c.toNat) ∨ (0 < i∧c.toNat = 0) then none else if c.toNat < 128 then some (c.toNat * 128 ^ i,r) else (rdVar (i + 1) r).map fun x=>(c.toNat % 128 * 128 ^ i + x.1,x.2)
def rdHs:Nat→List UInt8→Option (List (List UInt8) × List UInt8)
 | 0,l=>some ([],l)
 | n + 1,l=>if l.length < 32 then none else (rdHs n (l.drop 32)).map fun x=>(l.take 32 :: x.1,x.2)
def decF (b:List UInt8):Option (Nat × List (List UInt8) × List (List UInt8)):=
 (rdVar 0 b).bind fun x=>(rdHs 67 x.2).bind fun y=>(rdVar 0 y.2).bind fun z=>if 6 < z.1 then none else (rdHs z.1 z.2).bind fun u=>if u.2 = []∧x.1 ≤ 63 then some (x.1,y.1,u.1) else none
def encF (i:Nat) (c p:List (List UInt8)):List UInt8:=UInt8.ofNat i :: (c.flatten ++ UInt8.ofNat p.length :: p.flatten)
theorem rdHs_flat:∀ (c:List (List UInt8)) (r:List UInt8),(∀ h ∈ c,h.length = 32)→rdHs c.length (c.flatten ++ r) = some (c,r)
 | [],r,_=>rfl
 | h :: c,r,hl=>by
  have h32:=hl h (List.mem_cons_self ..)
  have ih:=rdHs_flat c r fun x hx=>hl x (List.mem_cons_of_mem _ hx)
  rw [List.length_cons,rdHs,List.flatten_cons,List.append_assoc,if_neg (by rw [List.length_append]; omega)]
  rw [List.drop_append_of_le_length (by omega),List.drop_of_length_le (by omega),List.nil_append,List.take_append_of_le_length (by omega),List.take_of_length_le (by omega),ih]
  rfl
theorem rdVar_small (n:Nat) (h:n < 128) (r:List UInt8):rdVar 0 (UInt8.ofNat n :: r) = some (n,r):=by
 have e:(UInt8.ofNat n).toNat = n:=by simp; omega
 rw [rdVar,e,if_neg (by omega),if_pos h]
 simp
theorem dec_enc (i:Nat) (c p:List (List UInt8)) (hi:i ≤ 63) (hc:c.length = 67) (hp:p.length ≤ 6) (hcl:∀ h ∈ c,h.length = 32) (hpl:∀ h ∈ p,h.length = 32):decF (encF i c p) = some (i,c,p):=by
 unfold decF encF
 rw [rdVar_small i (by omega)]
 simp only [Option.bind_some]
 rw [← hc,rdHs_flat c _ hcl]
 simp only [Option.bind_some]
 rw [rdVar_small _ (by omega)]
 simp only [Option.bind_some]
 rw [if_neg (by omega)]
 have:=rdHs_flat p [] hpl
 rw [List.append_nil] at this
 rw [this]
 simp [hi]
theorem encF_length (i:Nat) (c p:List (List UInt8)) (hc:c.length = 67) (hcl:∀ h ∈ c,h.length = 32) (hpl:∀ h ∈ p,h.length = 32):(encF i c p).length = 2146 + 32 * p.length:=by
 have flat:∀ l:List (List UInt8),(∀ h ∈ l,h.length = 32)→l.flatten.length = 32 * l.length:=by
  intro l
  induction l with
  | nil=>intro _; rfl
  | cons a r ih=>
   intro hl
   rw [List.flatten_cons,List.length_append,ih fun x hx=>hl x (List.mem_cons_of_mem _ hx),hl a (List.mem_cons_self ..),List.length_cons]
   omega
 unfold encF
 rw [List.length_cons,List.length_append,List.length_cons,flat c hcl,flat p hpl,hc]
 omega
def oddB (r:Int) (n:Nat):Bool:=(decide (r = 65533) && decide (n = 1)) || (decide (r ≠ 10) && controlB r)
def badTxt (r:Int):Bool:=decide (r ≠ 10) && controlB r
def oddAt:Nat→Nat→List UInt8→Option Nat
 | 0,_,_=>none
 | f + 1,at',l=>if l = [] then none else if oddB (Lib.decodeL l).1 (Lib.decodeL l).2 = true then some at' else oddAt f (at' + (Lib.decodeL l).2) (l.drop (Lib.decodeL l).2)
theorem oddAt_good:∀ (f at':Nat) (l:List UInt8),oddAt f at' l = none ↔ goodD badTxt f l = true
 | 0,_,_=>by simp [oddAt,goodD]
 | f + 1,at',l=>by
  unfold oddAt goodD
  by_cases h:l = []
  ·rw [if_pos h,if_pos h]; simp
  ·rw [if_neg h,if_neg h]
   by_cases h1:(Lib.decodeL l).1 = 65533∧(Lib.decodeL l).2 = 1
   ·rw [if_pos h1,if_pos (by unfold oddB; simp [h1.1,h1.2])]
    simp
   ·rw [if_neg h1]
    have e:oddB (Lib.decodeL l).1 (Lib.decodeL l).2 = badTxt (Lib.decodeL l).1:=by
     unfold oddB badTxt
     have:(decide (((Lib.decodeL l).1:Int) = 65533) && decide ((Lib.decodeL l).2 = 1)) = false:=by
      rw [Bool.eq_false_iff]
      intro h2
      simp only [Bool.and_eq_true,decide_eq_true_eq] at h2
      exact h1 ⟨by omega,h2.2⟩
     rw [this,Bool.false_or]
    rw [e]
    by_cases h2:badTxt (Lib.decodeL l).1 = true
    ·rw [if_pos h2,if_pos h2]; simp
    ·rw [if_neg h2,if_neg h2]
     exact oddAt_good f _ _
def mayTxt (l:List UInt8):Bool:=decide (l ≠ []) && decide (l.length ≤ 524288) && (oddAt l.length 0 l).isNone && decide (l.getLast? = some 10)
def dashL:List UInt8:=[226,128,148,32]
def readLn (row:List UInt8):Option (List UInt8 × List UInt8):=
 if Lib.hasPrefix row dashL = true∧(Lib.cut (Lib.trimPrefix row dashL) [32]).2.2 = true∧nameOf (Lib.cut (Lib.trimPrefix row dashL) [32]).1 = true∧(fromB64 (Lib.cut (Lib.trimPrefix row dashL) [32]).2.1).2.1 = 0∧(fromB64 (Lib.cut (Lib.trimPrefix row dashL) [32]).2.1).1 ≠ []∧(fromB64 (Lib.cut (Lib.trimPrefix row dashL) [32]).2.1).1.length ≤ 4096
 then some ((Lib.cut (Lib.trimPrefix row dashL) [32]).1,(fromB64 (Lib.cut (Lib.trimPrefix row dashL) [32]).2.1).1) else none
def linesN:Nat→Nat→List UInt8→List (List UInt8 × List UInt8)→Except Nat (List (List UInt8 × List UInt8))
 | 0,at',l,acc=>if l = [] then .ok acc else .error at'
 | f + 1,at',l,acc=>if l = [] then .ok acc else
  match readLn (Lib.cut l [10]).1 with
  | none=>.error at'
  | some x=>if (Lib.cut l [10]).2.2 = false ∨ (acc.any fun y=>decide (y.1 = x.1)) = true ∨ acc.length = 16 then .error at' else linesN f (at' + (Lib.cut l [10]).1.length + 1) (Lib.cut l [10]).2.1 (acc ++ [x])
def endN (l:List UInt8):Nat:=(Lib.lastIndex l [10,10] + 1).toNat
def toldN (n:Nat) (t:List UInt8):Except Nat (List (List UInt8 × List UInt8))→(List UInt8 × List (List UInt8 × List UInt8)) × Nat × Option Int
 | .error i=>(([],[]),3,some (i:Int))
 | .ok []=>(([],[]),3,some (n:Int))
 | .ok (x :: r)=>((t,x :: r),0,none)
def splitN (l:List UInt8):(List UInt8 × List (List UInt8 × List UInt8)) × Nat × Option Int:=
 if 1048576 < l.length then (([],[]),4,none) else
 match oddAt l.length 0 l with
 | some i=>(([],[]),3,some (i:Int))
 | none=>if endN l = 0 ∨ 524288 < endN l then (([],[]),3,some (l.length:Int)) else toldN l.length (l.take (endN l)) (linesN l.length (endN l + 1) (l.drop (endN l + 1)) [])
def lineL (x:List UInt8 × List UInt8):List UInt8:=dashL ++ (x.1 ++ 32 :: (b64 x.2 ++ [10]))
def noteL (s:List UInt8) (L:List (List UInt8 × List UInt8)):List UInt8:=s ++ 10 :: L.flatMap lineL
def fineLn (x:List UInt8 × List UInt8):Prop:=nameOf x.1 = true∧x.2 ≠ []∧x.2.length ≤ 4096
theorem index_none:∀ (l:List UInt8) (c:UInt8),c ∉ l→Lib.index l [c] = -1
 | [],c,_=>rfl
 | b :: r,c,h=>by
  have hb:c ≠ b:=fun e=>h (by rw [e]; exact List.mem_cons_self ..)
  have hr:=index_none r c fun e=>h (List.mem_cons_of_mem _ e)
  unfold Lib.index
  rw [if_neg (by simp [List.isPrefixOf,hb]),hr]
  rfl
theorem index_app:∀ (l m:List UInt8) (c:UInt8),c ∉ l→Lib.index (l ++ c :: m) [c] = (l.length:Int)
 | [],m,c,_=>by
  unfold Lib.index
  simp [List.isPrefixOf]
 | b :: r,m,c,h=>by
  have hb:c ≠ b:=fun e=>h (by rw [e]; exact List.mem_cons_self ..)
  have hr:=index_app r m c fun e=>h (List.mem_cons_of_mem _ e)
  rw [List.cons_append]
  unfold Lib.index
  rw [if_neg (by simp [List.isPrefixOf,hb]),hr,if_neg (by simp)]
  simp
theorem cut_app (l m:List UInt8) (c:UInt8) (h:c ∉ l):Lib.cut (l ++ c :: m) [c] = (l,m,true):=by
 unfold Lib.cut
 rw [index_app l m c h,if_pos (by omega),Int.toNat_natCast]
 congr 1
 ·rw [List.take_append_of_le_length (Nat.le_refl _),List.take_of_length_le (Nat.le_refl _)]
 ·congr 1
  rw [List.length_singleton,List.drop_append]
  simp
theorem pre_dash (r:List UInt8):Lib.hasPrefix (dashL ++ r) dashL = true∧Lib.trimPrefix (dashL ++ r) dashL = r:=by
 constructor
 ·unfold Lib.hasPrefix dashL; simp [List.isPrefixOf]
 ·unfold Lib.trimPrefix dashL; simp [List.isPrefixOf,Lib.hasPrefix]
theorem name_no {l:List UInt8} (h:nameOf l = true) (c:UInt8) (hc:c.toNat < 128) (hb:badName (c.toNat:Int) = true):c ∉ l:=by
 intro hm
 obtain ⟨a,b,rfl⟩:=List.append_of_mem hm
 rw [name_mid hc hb] at h
 cases h
theorem letters_no (c:UInt8) (h:c ∈ lettersL):c ≠ 10∧33 ≤ c.toNat∧c.toNat < 127:=by
 have:∀ x ∈ lettersL,x ≠ 10∧33 ≤ x.toNat∧x.toNat < 127:=by decide
 exact this c h
theorem L64_mem (i:Nat) (h:i < 64):L64 i ∈ lettersL:=List.mem_of_getElem? (L64_get i h)
theorem b64_all:∀ (l:List UInt8),∀ c ∈ b64 l,c ∈ lettersL ∨ c = 61
 | [],c,h=>by simp [b64] at h
 | [a],c,h=>by
  have:=a.toNat_lt
  simp only [b64,List.mem_cons,List.not_mem_nil,or_false] at h
  rcases h with rfl | rfl | rfl | rfl
  ·exact Or.inl (L64_mem _ (by omega))
  ·exact Or.inl (L64_mem _ (by omega))
  ·exact Or.inr rfl
  ·exact Or.inr rfl
 | [a,b],c,h=>by
  have:=a.toNat_lt
  have:=b.toNat_lt
  simp only [b64,List.mem_cons,List.not_mem_nil,or_false] at h
  rcases h with rfl | rfl | rfl | rfl
  ·exact Or.inl (L64_mem _ (by omega))
  ·exact Or.inl (L64_mem _ (by omega))
  ·exact Or.inl (L64_mem _ (by omega))
  ·exact Or.inr rfl
 | x :: y :: z :: r,c,h=>by
  simp only [b64,List.mem_cons] at h
  rcases h with rfl | rfl | rfl | rfl | h
  ·exact Or.inl (L64_mem _ (by omega))
  ·exact Or.inl (L64_mem _ (by omega))
  ·exact Or.inl (L64_mem _ (by omega))
  ·exact Or.inl (L64_mem _ (by omega))
  ·exact b64_all r c h
theorem b64_byte (l:List UInt8) (c:UInt8) (h:c ∈ b64 l):c ≠ 10∧33 ≤ c.toNat∧c.toNat < 127:=by
 rcases b64_all l c h with h | rfl
 ·exact letters_no c h
 ·decide
def rowL (x:List UInt8 × List UInt8):List UInt8:=dashL ++ (x.1 ++ 32 :: b64 x.2)
theorem lineL_row (x:List UInt8 × List UInt8) (r:List UInt8):lineL x ++ r = rowL x ++ 10 :: r:=by simp [lineL,rowL]
theorem rowL_no (x:List UInt8 × List UInt8) (h:nameOf x.1 = true):(10:UInt8) ∉ rowL x:=by
 unfold rowL
 simp only [List.mem_append,List.mem_cons,not_or]
 refine ⟨by decide,name_no h 10 (by decide) (by decide),by decide,fun hm=>(b64_byte _ _ hm).1 rfl⟩
theorem read_row (x:List UInt8 × List UInt8) (h:fineLn x):readLn (rowL x) = some x:=by
 obtain ⟨h1,h2,h3⟩:=h
 have hp:=pre_dash (x.1 ++ 32 :: b64 x.2)
 have hc:=cut_app x.1 (b64 x.2) 32 (name_no h1 32 (by decide) (by decide))
 have hb:=fromB64_b64 x.2 (by omega)
 unfold readLn rowL
 rw [hp.1,hp.2,hc]
 simp only [hb]
 rw [if_pos ⟨trivial,trivial,h1,trivial,h2,h3⟩]
theorem lines_note:∀ (L:List (List UInt8 × List UInt8)) (f at':Nat) (acc:List (List UInt8 × List UInt8)),(∀ x ∈ L,fineLn x)→((acc ++ L).map Prod.fst).Nodup→acc.length + L.length ≤ 16→(L.flatMap lineL).length ≤ f →
  linesN f at' (L.flatMap lineL) acc = .ok (acc ++ L)
 | [],f,at',acc,_,_,_,_=>by cases f <;> simp [linesN]
 | x :: r,f,at',acc,hf,hn,hl,hlen=>by
  have hx:=hf x (List.mem_cons_self ..)
  have e:(x :: r).flatMap lineL = rowL x ++ 10 :: r.flatMap lineL:=by rw [List.flatMap_cons,lineL_row]
  rw [e] at hlen ⊢
  simp only [List.length_append,List.length_cons] at hlen hl
  cases f with
  | zero=>omega
  | succ f=>
   have hnil:rowL x ++ 10 :: r.flatMap lineL ≠ []:=by simp
   rw [linesN,if_neg hnil,cut_app _ _ _ (rowL_no x hx.1)]
   simp only [read_row x hx]
   have hany:(acc.any fun y=>decide (y.1 = x.1)) = false:=by
    rw [Bool.eq_false_iff]
    intro h
    rw [List.any_eq_true] at h
    obtain ⟨y,hy,hyx⟩:=h
    rw [List.map_append,List.map_cons] at hn
    have:=(List.nodup_append.1 hn).2.2 y.1 (List.mem_map_of_mem hy) x.1 (List.mem_cons_self ..)
    exact this (of_decide_eq_true hyx)
   rw [hany,if_neg (by simp; omega)]
   have ih:=lines_note r f (at' + (rowL x).length + 1) (acc ++ [x]) (fun y hy=>hf y (List.mem_cons_of_mem _ hy)) (by rw [List.append_assoc]; exact hn) (by rw [List.length_append,List.length_singleton]; omega) (by omega)
   rw [ih,List.append_assoc]
   rfl
def noNN:List UInt8→Bool
 | []=>true
 | c :: r=>if c = 10∧r.head? = some 10 then false else noNN r
theorem noNN_occ:∀ (l:List UInt8),noNN l = true→∀ j,Lib.occAt l [10,10] j = false
 | [],_,j=>by simp [Lib.occAt]
 | c :: r,h,0=>by
  unfold noNN at h
  split at h
  ·cases h
  ·rename_i hn
   cases r with
   | nil=>simp [Lib.occAt,List.isPrefixOf]
   | cons d r=>
    simp only [Lib.occAt,List.drop_zero,List.isPrefixOf,Bool.and_eq_false_iff,beq_eq_false_iff_ne]
    by_cases h1:c = 10
    ·right; left
     intro h2
     exact hn ⟨h1,by rw [← h2]; rfl⟩
    ·left; exact fun e=>h1 e.symm
 | c :: r,h,j + 1=>by
  unfold noNN at h
  split at h
  ·cases h
  ·have:=noNN_occ r h j
   simpa [Lib.occAt] using this
theorem noNN_app:∀ (l m:List UInt8),(10:UInt8) ∉ l→m.head? = some 10→noNN m = true→noNN (l ++ m) = true
 | [],m,_,_,h=>h
 | c :: r,m,hc,hh,h=>by
  rw [List.cons_append]
  unfold noNN
  rw [if_neg (by rintro ⟨e,_⟩; exact hc (by rw [e]; exact List.mem_cons_self ..))]
  exact noNN_app r m (fun e=>hc (List.mem_cons_of_mem _ e)) hh h
theorem noNN_lines:∀ (L:List (List UInt8 × List UInt8)),(∀ x ∈ L,nameOf x.1 = true)→noNN (10 :: L.flatMap lineL) = true
 | [],_=>by decide
 | x :: r,h=>by
  have ih:=noNN_lines r fun y hy=>h y (List.mem_cons_of_mem _ hy)
  have e:(x :: r).flatMap lineL = rowL x ++ 10 :: r.flatMap lineL:=by rw [List.flatMap_cons,lineL_row]
  rw [e]
  unfold noNN
  rw [if_neg]
  ·exact noNN_app _ _ (rowL_no x (h x (List.mem_cons_self ..))) rfl ih
  ·rintro ⟨_,h2⟩
   simp [rowL,dashL] at h2
theorem end_note (s:List UInt8) (L:List (List UInt8 × List UInt8)) (hs:s.getLast? = some 10) (hL:∀ x ∈ L,nameOf x.1 = true):endN (noteL s L) = s.length:=by
 obtain ⟨a,rfl⟩:∃ a,s = a ++ [10]:=by
  rw [List.getLast?_eq_some_iff] at hs
  exact hs
 have hn:=noNN_occ _ (noNN_lines L hL)
 unfold endN Lib.lastIndex noteL
 rw [if_pos (by simp; omega)]
 have hocc:Lib.occAt (a ++ [10] ++ 10 :: L.flatMap lineL) [10,10] a.length = true:=by
  unfold Lib.occAt
  rw [List.append_assoc,List.drop_append_of_le_length (Nat.le_refl _),List.drop_of_length_le (Nat.le_refl _)]
  simp [List.isPrefixOf]
 have hno:∀ j,a.length < j→Lib.occAt (a ++ [10] ++ 10 :: L.flatMap lineL) [10,10] j = false:=by
  intro j hj
  have:=hn (j - (a.length + 1))
  unfold Lib.occAt at this ⊢
  rw [List.drop_append,List.drop_of_length_le (by simp; omega),List.nil_append]
  simpa using this
 rcases Lib.lastOcc_spec (a ++ [10] ++ 10 :: L.flatMap lineL) [10,10] ((a ++ [10] ++ 10 :: L.flatMap lineL).length - [(10:UInt8),10].length + 1) with ⟨_,h⟩ | ⟨i,hi,e,h1,h2⟩
 ·have:=h a.length (by simp; omega)
  rw [hocc] at this
  cases this
 ·have hia:i = a.length:=by
   rcases Nat.lt_trichotomy i a.length with h3 | h3 | h3
   ·have:=h2 a.length h3 (by simp; omega)
    rw [hocc] at this
    cases this
   ·exact h3
   ·have:=hno i h3
    rw [h1] at this
    cases this
  rw [e,hia]
  simp
theorem badTxt_name (r:Int) (h:badName r = false):badTxt r = false:=by
 unfold badTxt
 rw [controlB_bad r h,Bool.and_false]
theorem goodT_ascii:∀ (l:List UInt8) (n:Nat),(∀ c ∈ l,c = 10 ∨ (32 ≤ c.toNat∧c.toNat < 127))→goodD badTxt n l = true
 | _,0,_=>rfl
 | [],n + 1,_=>goodD_end _ _
 | c :: r,n + 1,h=>by
  have hc:=h c (List.mem_cons_self ..)
  have hlt:c.toNat < 128:=by rcases hc with rfl | h; decide; omega
  have hd:Lib.decodeL (c :: r) = (c.toNat,1):=Lib.decodeL_ascii c r hlt
  unfold goodD
  rw [if_neg (by simp),hd,if_neg (by simp; omega)]
  have hb:badTxt (c.toNat:Int) = false:=by
   unfold badTxt controlB
   rcases hc with rfl | hc
   ·decide
   ·rw [Bool.and_eq_false_iff]
    right
    simp
    omega
  rw [if_neg (by rw [hb]; simp)]
  exact goodT_ascii r n fun x hx=>h x (List.mem_cons_of_mem _ hx)
theorem goodT_app {l m:List UInt8} (h:goodD badTxt l.length l = true) (k:goodD badTxt m.length m = true):goodD badTxt (l ++ m).length (l ++ m) = true:=by
 rw [goodD_app badTxt l.length l m _ h (Nat.le_refl _) (Nat.le_refl _)]
 exact k
theorem goodT_line (x:List UInt8 × List UInt8) (h:nameOf x.1 = true):goodD badTxt (lineL x).length (lineL x) = true:=by
 unfold lineL
 refine goodT_app (by decide +kernel) (goodT_app (goodD_mono badName badTxt badTxt_name _ _ (name_len h).2.2) ?_)
 refine goodT_ascii _ _ fun c hc=>?_
 simp only [List.mem_cons,List.mem_append,List.not_mem_nil,or_false] at hc
 rcases hc with rfl | hc | rfl
 ·decide
 ·have:=b64_byte _ _ hc
  omega
 ·decide
theorem goodT_lines:∀ (L:List (List UInt8 × List UInt8)),(∀ x ∈ L,nameOf x.1 = true)→goodD badTxt (L.flatMap lineL).length (L.flatMap lineL) = true
 | [],_=>rfl
 | x :: r,h=>by
  rw [List.flatMap_cons]
  exact goodT_app (goodT_line x (h x (List.mem_cons_self ..))) (goodT_lines r fun y hy=>h y (List.mem_cons_of_mem _ hy))
theorem split_note (s:List UInt8) (L:List (List UInt8 × List UInt8)) (hs:mayTxt s = true) (hL:∀ x ∈ L,fineLn x) (hne:L ≠ []) (hn:(L.map Prod.fst).Nodup) (h16:L.length ≤ 16) (hlen:(noteL s L).length ≤ 1048576) :
  splitN (noteL s L) = ((s,L),0,none):=by
 unfold mayTxt at hs
 simp only [Bool.and_eq_true,decide_eq_true_eq,Option.isNone_iff_eq_none] at hs
 obtain ⟨⟨⟨h1,h2⟩,h3⟩,h4⟩:=hs
 have hnm:∀ x ∈ L,nameOf x.1 = true:=fun x hx=>(hL x hx).1
 have hg:oddAt (noteL s L).length 0 (noteL s L) = none:=by
  rw [oddAt_good]
  unfold noteL
  refine goodT_app ((oddAt_good _ _ _).1 h3) ?_
  rw [show (10 :: L.flatMap lineL) = [10] ++ L.flatMap lineL from rfl]
  exact goodT_app (by decide +kernel) (goodT_lines L hnm)
 have he:=end_note s L h4 hnm
 have h0:=List.length_pos_iff.2 h1
 unfold splitN
 rw [if_neg (by omega),hg,he]
 simp only
 rw [if_neg (by omega)]
 have hd:(noteL s L).drop (s.length + 1) = L.flatMap lineL:=by
  unfold noteL
  rw [List.drop_append,List.drop_of_length_le (by omega)]
  simp
 have ht:(noteL s L).take s.length = s:=by
  unfold noteL
  rw [List.take_append_of_le_length (Nat.le_refl _),List.take_of_length_le (Nat.le_refl _)]
 rw [hd,ht,lines_note L _ _ [] hL (by simpa using hn) (by simpa using h16) (by unfold noteL; simp; omega)]
 cases L with
 | nil=>exact absurd rfl hne
 | cons x r=>rfl
theorem line_length (x:List UInt8 × List UInt8):(lineL x).length = 6 + x.1.length + (x.2.length + 2) / 3 * 4:=by
 unfold lineL dashL
 simp [b64_length]
 omega
theorem decodeN_fffd (n x y z u:Nat) (hx:x < 256) (_:y < 256) (_:z < 256) (h:(Lib.decodeN n x y z u).1 = 65533):(Lib.decodeN n x y z u).2 ≠ 1 ↔ (2 < n∧x = 239∧y = 191∧z = 189):=by
 unfold Lib.decodeN at h ⊢
 by_cases c1:x < 128
 ·rw [if_pos c1] at h
  simp only at h
  omega
 rw [if_neg c1] at h ⊢
 by_cases c2:x / 32 = 6∧(1 < n∧y / 64 = 2)
 ·rw [if_pos c2] at h ⊢
  by_cases d:x % 32 * 64 + y % 64 ≥ 128
  ·rw [if_pos d] at h
   simp only at h
   omega
  ·rw [if_neg d]
   simp only [ne_eq,not_true_eq_false,false_iff]
   omega
 rw [if_neg c2] at h ⊢
 by_cases c3:x / 16 = 14∧(1 < n∧y / 64 = 2)∧(2 < n∧z / 64 = 2)
 ·rw [if_pos c3] at h ⊢
  by_cases d:x % 16 * 4096 + y % 64 * 64 + z % 64 ≥ 2048∧(x % 16 * 4096 + y % 64 * 64 + z % 64 < 55296 ∨ (57344 ≤ x % 16 * 4096 + y % 64 * 64 + z % 64∧x % 16 * 4096 + y % 64 * 64 + z % 64 ≤ 1114111))
  ·rw [if_pos d] at h ⊢
   simp only at h
   simp only [ne_eq]
   omega
  ·rw [if_neg d]
   simp only [ne_eq,not_true_eq_false,false_iff]
   omega
 rw [if_neg c3] at h ⊢
 by_cases c4:x / 8 = 30∧(1 < n∧y / 64 = 2)∧(2 < n∧z / 64 = 2)∧(3 < n∧u / 64 = 2)
 ·rw [if_pos c4] at h ⊢
  split at h
  ·rename_i d
   simp only at h
   omega
  ·rename_i d
   rw [if_neg d]
   simp only [ne_eq,not_true_eq_false,false_iff]
   omega
 rw [if_neg c4]
 simp only [ne_eq,not_true_eq_false,false_iff]
 omega
def fffdL:List UInt8:=[239,191,189]
theorem fffd (l:List UInt8) (h:(Lib.decodeL l).1 = 65533):Lib.hasPrefix l fffdL = decide ((Lib.decodeL l).2 ≠ 1):=by
 have key:=decodeN_fffd l.length (l.getD 0 0).toNat (l.getD 1 0).toNat (l.getD 2 0).toNat (l.getD 3 0).toNat (UInt8.toNat_lt _) (UInt8.toNat_lt _) (UInt8.toNat_lt _) (by rw [← Lib.decodeL_N]; exact h)
 rw [← Lib.decodeL_N] at key
 have e:Lib.hasPrefix l fffdL = decide (2 < l.length∧(l.getD 0 0).toNat = 239∧(l.getD 1 0).toNat = 191∧(l.getD 2 0).toNat = 189):=by
  rcases l with _ | ⟨a,_ | ⟨b,_ | ⟨c,r⟩⟩⟩
  ·rfl
  ·simp [Lib.hasPrefix,fffdL,List.isPrefixOf]
  ·simp [Lib.hasPrefix,fffdL,List.isPrefixOf]
  ·have e1:Lib.hasPrefix (a :: b :: c :: r) fffdL = (239 == a && (191 == b && 189 == c)):=by simp [Lib.hasPrefix,fffdL,List.isPrefixOf]
   rw [e1]
   simp only [List.getD_cons_zero,List.getD_cons_succ]
   by_cases h1:a.toNat = 239
   ·obtain rfl:a = 239:=UInt8.toNat_inj.1 h1
    by_cases h2:b.toNat = 191
    ·obtain rfl:b = 191:=UInt8.toNat_inj.1 h2
     by_cases h3:c.toNat = 189
     ·obtain rfl:c = 189:=UInt8.toNat_inj.1 h3
      simp
     ·have:¬ (189:UInt8) = c:=fun h=>h3 (by rw [← h]; rfl)
      simp [h3,this]
    ·have:¬ (191:UInt8) = b:=fun h=>h2 (by rw [← h]; rfl)
     simp [h2,this]
   ·have:¬ (239:UInt8) = a:=fun h=>h1 (by rw [← h]; rfl)
    simp [h1,this]
 rw [e]
 exact decide_eq_decide.2 key.symm
theorem oddAt_end (f p:Nat):oddAt f p [] = none:=by cases f <;> simp [oddAt]
theorem oddAt_hit (f p:Nat) (l:List UInt8) (hne:l ≠ []) (h:oddB (Lib.decodeL l).1 (Lib.decodeL l).2 = true):oddAt (f + 1) p l = some p:=by rw [oddAt,if_neg hne,if_pos h]
theorem oddAt_miss (f p:Nat) (l:List UInt8) (hne:l ≠ []) (h:¬ oddB (Lib.decodeL l).1 (Lib.decodeL l).2 = true):oddAt (f + 1) p l = oddAt f (p + (Lib.decodeL l).2) (l.drop (Lib.decodeL l).2):=by rw [oddAt,if_neg hne,if_neg h]
end Go.Proofs.YticlgcfodlcpcaaGreatDoor
