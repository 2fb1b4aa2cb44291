/- Layer 3 (text),plain: what is told by letters and digits,over lists of bytes. No program in sight. -/
import Derived.Laws.BitsAllLaws
import Derived.Laws.Bits64b
import Derived.Laws.BitsLemmas
namespace Go.Proofs.YticlgcfodlcpcaaGreatDoor
def lettersL:List UInt8:=[65,66,67,68,69,70,71,72,73,74,75,76,77,78,79,80,81,82,83,84,85,86,87,88,89,90,97,98,99,100,101,102,103,104,105,106,107,108,109,110,111,112,113,114,115,116,117,118,119,120,121,122,48,49,50,51,52,53,54,55,56,57,43,47]
def L64 (i:Nat):UInt8:=lettersL.getD i 0
theorem L64_get (i:Nat) (h:i < 64):lettersL[i]? = some (L64 i):=by
 unfold L64
 rw [List.getD_eq_getElem?_getD,List.getElem?_eq_getElem (by simpa [lettersL] using h)]
 rfl
def n3 (a b c:UInt8):Nat:=a.toNat * 65536 + b.toNat * 256 + c.toNat
theorem n3_lt (a b c:UInt8):n3 a b c < 16777216:=by
 have:=UInt8.toNat_lt a; have:=UInt8.toNat_lt b; have:=UInt8.toNat_lt c
 unfold n3; omega
def b64:List UInt8→List UInt8
 | a :: b :: c :: r=>L64 (n3 a b c / 262144 % 64) :: L64 (n3 a b c / 4096 % 64) :: L64 (n3 a b c / 64 % 64) :: L64 (n3 a b c % 64) :: b64 r
 | [a,b]=>[L64 (a.toNat / 4),L64 (a.toNat % 4 * 16 + b.toNat / 16),L64 (b.toNat % 16 * 4),61]
 | [a]=>[L64 (a.toNat / 4),L64 (a.toNat % 4 * 16),61,61]
 | []=>[]
theorem b64_length:∀ l:List UInt8,(b64 l).length = (l.length + 2) / 3 * 4
 | []=>rfl
 | [_]=>by simp [b64]
 | [_,_]=>by simp [b64]
 | a :: b :: c :: r=>by
  simp only [b64,List.length_cons,b64_length r]
  omega
theorem or_low (x b k:Nat) (h:b < 2 ^ k):x * 2 ^ k ||| b = x * 2 ^ k + b:=by
 rw [Nat.mul_comm]
 exact (Nat.two_pow_add_eq_or_of_lt h x).symm
theorem or3_nat (a b c:Nat) (hb:b < 256) (hc:c < 256):a * 65536 ||| b * 256 ||| c = a * 65536 + b * 256 + c:=by
 have h1:=or_low a (b * 256) 16 (by omega)
 have h2:=or_low (a * 256 + b) c 8 (by omega)
 simp only [Nat.reducePow] at h1 h2
 rw [h1,show a * 65536 + b * 256 = (a * 256 + b) * 256 by omega,h2]
theorem or3 (a b c:UInt8):bits .or .u64 (bits .or .u64 ((a.toNat:Int) * 65536) ((b.toNat:Int) * 256)) (c.toNat:Int) = ((n3 a b c:Nat):Int):=by
 have ha:=UInt8.toNat_lt a
 have hb:=UInt8.toNat_lt b
 have hc:=UInt8.toNat_lt c
 unfold n3
 generalize a.toNat = x at *
 generalize b.toNat = y at *
 generalize c.toNat = z at *
 have e1:=u64_or_nat (x * 65536) (y * 256) (by omega) (by omega)
 have h1:=or_low x (y * 256) 16 (by omega)
 simp only [Nat.reducePow] at h1
 rw [h1] at e1
 have e2:=u64_or_nat (x * 65536 + y * 256) z (by omega) (by omega)
 have h2:=or_low (x * 256 + y) z 8 (by omega)
 simp only [Nat.reducePow] at h2
 rw [show x * 65536 + y * 256 = (x * 256 + y) * 256 by omega,h2] at e2
 rw [show ((x:Int) * 65536) = ((x * 65536:Nat):Int) by omega,show ((y:Int) * 256) = ((y * 256:Nat):Int) by omega,e1,show x * 65536 + y * 256 = (x * 256 + y) * 256 by omega,e2]
theorem and63 (n:Nat) (h:n < 18446744073709551616):bits .and .u64 (n:Int) 63 = ((n % 64:Nat):Int):=by
 have:=u64_and_nat n 63 h (by omega)
 rw [show (63:Nat) = 2 ^ 6 - 1 from rfl,Nat.and_two_pow_sub_one_eq_mod] at this
 exact this
theorem and63i (x:Int) (h0:0 ≤ x) (h1:x < 16777216):bits .and .u64 x 63 = x % 64:=by
 have:=and63 x.toNat (by omega)
 rw [show ((x.toNat:Nat):Int) = x by omega] at this
 rw [this]; omega
theorem u8and (n k:Nat) (h:n < 256) (hk:2 ^ k - 1 < 256):bits .and .u8 (n:Int) ((2 ^ k - 1:Nat):Int) = ((n % 2 ^ k:Nat):Int):=by
 have:=u8_and_nat n (2 ^ k - 1) h hk
 rwa [Nat.and_two_pow_sub_one_eq_mod] at this
theorem u8or (x b k:Nat) (h:b < 2 ^ k) (h2:x * 2 ^ k + b < 256):bits .or .u8 ((x * 2 ^ k:Nat):Int) (b:Int) = ((x * 2 ^ k + b:Nat):Int):=by
 have:=u8_or_nat (x * 2 ^ k) b (by omega) (by omega)
 rwa [or_low x b k h] at this
theorem u8_m3 (a:UInt8):bits .and .u8 (a.toNat:Int) 3 = (a.toNat:Int) % 4:=by
 have:=u8and a.toNat 2 (UInt8.toNat_lt a) (by omega)
 simpa using this
theorem u8_m15 (a:UInt8):bits .and .u8 (a.toNat:Int) 15 = (a.toNat:Int) % 16:=by
 have:=u8and a.toNat 4 (UInt8.toNat_lt a) (by omega)
 simpa using this
theorem u8_o4 (a b:UInt8):bits .or .u8 ((a.toNat:Int) % 4 * 16) ((b.toNat:Int) / 16) = (a.toNat:Int) % 4 * 16 + (b.toNat:Int) / 16:=by
 have hb:=UInt8.toNat_lt b
 have:=u8or (a.toNat % 4) (b.toNat / 16) 4 (by omega) (by omega)
 simpa using this
end Go.Proofs.YticlgcfodlcpcaaGreatDoor
