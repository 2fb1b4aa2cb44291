/- cartularyref03: follows,Control,Blank by contracts. -/
import Derived.Test.YticlgcfodlcpcaaGreatDoorName2
import Derived.Test.YticlgcfodlcpcaaGreatDoorSeen
import Derived.BigQuiet
import Derived.Test.YticlgcfodlcpcaaGreatDoorBackP
import Derived.Deep.AppendLies
namespace Go.Proofs.YticlgcfodlcpcaaGreatDoor
open Go.Lib (hid byteCells)
open Go.RowKit
theorem refControl_any (r:Int) (w:World):Calls Tryz.prog 121 #[.int .i32 r] w fun e w'=>e = .returned (.bool (controlB r))∧w = w':=by
 by_cases h1:r < 32
 ·go_enter Tryz.func121,Tryz.ntmps121
  go_wp2
  go_ret
  exact ⟨ret_bool (by simp [controlB,h1]),rfl⟩
 ·by_cases h2:127 ≤ r
  ·by_cases h3:r ≤ 159
   ·go_enter Tryz.func121,Tryz.ntmps121
    go_wp2
    go_ret
    exact ⟨ret_bool (by simp [controlB,h2,h3]),rfl⟩
   ·go_enter Tryz.func121,Tryz.ntmps121
    go_wp2
    go_ret
    exact ⟨ret_bool (by simp [controlB,h1,h2,h3]),rfl⟩
  ·go_enter Tryz.func121,Tryz.ntmps121
   go_wp2
   go_ret
   exact ⟨ret_bool (by simp [controlB,h1]; omega),rfl⟩
theorem refBlank_32 (w:World):Calls Tryz.prog 122 #[.int .i32 32] w fun e w'=>e = .returned (.bool true)∧w = w':=by
 go_enter Tryz.func122,Tryz.ntmps122
 go_wp2
 go_ret
 exact ⟨ret_bool (by first | rfl | (simp; omega) | simp_all),rfl⟩
theorem refBlank_133 (w:World):Calls Tryz.prog 122 #[.int .i32 133] w fun e w'=>e = .returned (.bool true)∧w = w':=by
 go_enter Tryz.func122,Tryz.ntmps122
 go_wp2
 go_ret
 exact ⟨ret_bool (by first | rfl | (simp; omega) | simp_all),rfl⟩
theorem refBlank_160 (w:World):Calls Tryz.prog 122 #[.int .i32 160] w fun e w'=>e = .returned (.bool true)∧w = w':=by
 go_enter Tryz.func122,Tryz.ntmps122
 go_wp2
 go_ret
 exact ⟨ret_bool (by first | rfl | (simp; omega) | simp_all),rfl⟩
theorem refBlank_5760 (w:World):Calls Tryz.prog 122 #[.int .i32 5760] w fun e w'=>e = .returned (.bool true)∧w = w':=by
 go_enter Tryz.func122,Tryz.ntmps122
 go_wp2
 go_ret
 exact ⟨ret_bool (by first | rfl | (simp; omega) | simp_all),rfl⟩
theorem refBlank_8232 (w:World):Calls Tryz.prog 122 #[.int .i32 8232] w fun e w'=>e = .returned (.bool true)∧w = w':=by
 go_enter Tryz.func122,Tryz.ntmps122
 go_wp2
 go_ret
 exact ⟨ret_bool (by first | rfl | (simp; omega) | simp_all),rfl⟩
theorem refBlank_8233 (w:World):Calls Tryz.prog 122 #[.int .i32 8233] w fun e w'=>e = .returned (.bool true)∧w = w':=by
 go_enter Tryz.func122,Tryz.ntmps122
 go_wp2
 go_ret
 exact ⟨ret_bool (by first | rfl | (simp; omega) | simp_all),rfl⟩
theorem refBlank_8239 (w:World):Calls Tryz.prog 122 #[.int .i32 8239] w fun e w'=>e = .returned (.bool true)∧w = w':=by
 go_enter Tryz.func122,Tryz.ntmps122
 go_wp2
 go_ret
 exact ⟨ret_bool (by first | rfl | (simp; omega) | simp_all),rfl⟩
theorem refBlank_8287 (w:World):Calls Tryz.prog 122 #[.int .i32 8287] w fun e w'=>e = .returned (.bool true)∧w = w':=by
 go_enter Tryz.func122,Tryz.ntmps122
 go_wp2
 go_ret
 exact ⟨ret_bool (by first | rfl | (simp; omega) | simp_all),rfl⟩
theorem refBlank_12288 (w:World):Calls Tryz.prog 122 #[.int .i32 12288] w fun e w'=>e = .returned (.bool true)∧w = w':=by
 go_enter Tryz.func122,Tryz.ntmps122
 go_wp2
 go_ret
 exact ⟨ret_bool (by first | rfl | (simp; omega) | simp_all),rfl⟩
set_option maxHeartbeats 1000000 in
theorem refBlank_mid (r:Int) (w:World) (h1:8192 ≤ r) (h2:r ≤ 8202):Calls Tryz.prog 122 #[.int .i32 r] w fun e w'=>e = .returned (.bool true)∧w = w':=by
 have n32:(r == 32) = false:=by rw [beq_eq_false_iff_ne]; omega
 have n133:(r == 133) = false:=by rw [beq_eq_false_iff_ne]; omega
 have n160:(r == 160) = false:=by rw [beq_eq_false_iff_ne]; omega
 have n5760:(r == 5760) = false:=by rw [beq_eq_false_iff_ne]; omega
 have n8232:(r == 8232) = false:=by rw [beq_eq_false_iff_ne]; omega
 have n8233:(r == 8233) = false:=by rw [beq_eq_false_iff_ne]; omega
 have n8239:(r == 8239) = false:=by rw [beq_eq_false_iff_ne]; omega
 have n8287:(r == 8287) = false:=by rw [beq_eq_false_iff_ne]; omega
 have n12288:(r == 12288) = false:=by rw [beq_eq_false_iff_ne]; omega
 go_enter Tryz.func122,Tryz.ntmps122
 go_wp2
 go_ret
 exact ⟨ret_bool (by first | rfl | (simp; omega) | simp_all),rfl⟩
set_option maxHeartbeats 1000000 in
theorem refBlank_low (r:Int) (w:World) (h1:r < 8192) (h32:r ≠ 32) (h133:r ≠ 133) (h160:r ≠ 160) (h5760:r ≠ 5760) (h8232:r ≠ 8232) (h8233:r ≠ 8233) (h8239:r ≠ 8239) (h8287:r ≠ 8287) (h12288:r ≠ 12288):Calls Tryz.prog 122 #[.int .i32 r] w fun e w'=>e = .returned (.bool false)∧w = w':=by
 have n32:(r == 32) = false:=by rw [beq_eq_false_iff_ne]; omega
 have n133:(r == 133) = false:=by rw [beq_eq_false_iff_ne]; omega
 have n160:(r == 160) = false:=by rw [beq_eq_false_iff_ne]; omega
 have n5760:(r == 5760) = false:=by rw [beq_eq_false_iff_ne]; omega
 have n8232:(r == 8232) = false:=by rw [beq_eq_false_iff_ne]; omega
 have n8233:(r == 8233) = false:=by rw [beq_eq_false_iff_ne]; omega
 have n8239:(r == 8239) = false:=by rw [beq_eq_false_iff_ne]; omega
 have n8287:(r == 8287) = false:=by rw [beq_eq_false_iff_ne]; omega
 have n12288:(r == 12288) = false:=by rw [beq_eq_false_iff_ne]; omega
 go_enter Tryz.func122,Tryz.ntmps122
 go_wp2
 go_ret
 exact ⟨ret_bool (by first | rfl | (simp; omega) | simp_all),rfl⟩
set_option maxHeartbeats 1000000 in
theorem refBlank_high (r:Int) (w:World) (h0:8192 ≤ r) (h1:8202 < r) (h32:r ≠ 32) (h133:r ≠ 133) (h160:r ≠ 160) (h5760:r ≠ 5760) (h8232:r ≠ 8232) (h8233:r ≠ 8233) (h8239:r ≠ 8239) (h8287:r ≠ 8287) (h12288:r ≠ 12288):Calls Tryz.prog 122 #[.int .i32 r] w fun e w'=>e = .returned (.bool false)∧w = w':=by
 have n32:(r == 32) = false:=by rw [beq_eq_false_iff_ne]; omega
 have n133:(r == 133) = false:=by rw [beq_eq_false_iff_ne]; omega
 have n160:(r == 160) = false:=by rw [beq_eq_false_iff_ne]; omega
 have n5760:(r == 5760) = false:=by rw [beq_eq_false_iff_ne]; omega
 have n8232:(r == 8232) = false:=by rw [beq_eq_false_iff_ne]; omega
 have n8233:(r == 8233) = false:=by rw [beq_eq_false_iff_ne]; omega
 have n8239:(r == 8239) = false:=by rw [beq_eq_false_iff_ne]; omega
 have n8287:(r == 8287) = false:=by rw [beq_eq_false_iff_ne]; omega
 have n12288:(r == 12288) = false:=by rw [beq_eq_false_iff_ne]; omega
 go_enter Tryz.func122,Tryz.ntmps122
 go_wp2
 go_ret
 exact ⟨ret_bool (by first | rfl | (simp; omega) | simp_all),rfl⟩
theorem blankB_eq (r:Int):blankB r = (decide (r = 32) || (decide (r = 133) || (decide (r = 160) || (decide (r = 5760) || (decide (8192 ≤ r) && decide (r ≤ 8202) || (decide (r = 8232) || (decide (r = 8233) || (decide (r = 8239) || (decide (r = 8287) || decide (r = 12288)))))))))):=by
 rw [Bool.eq_iff_iff]
 simp [blankB,blankLo,blankHi]
 omega
theorem refBlank_any (r:Int) (w:World):Calls Tryz.prog 122 #[.int .i32 r] w fun e w'=>e = .returned (.bool (blankB r))∧w = w':=by
 by_cases h32:r = 32
 ·subst h32; exact (refBlank_32 w).mono fun e w' h=>⟨h.1.trans (ret_bool (by decide)),h.2⟩
 by_cases h133:r = 133
 ·subst h133; exact (refBlank_133 w).mono fun e w' h=>⟨h.1.trans (ret_bool (by decide)),h.2⟩
 by_cases h160:r = 160
 ·subst h160; exact (refBlank_160 w).mono fun e w' h=>⟨h.1.trans (ret_bool (by decide)),h.2⟩
 by_cases h5760:r = 5760
 ·subst h5760; exact (refBlank_5760 w).mono fun e w' h=>⟨h.1.trans (ret_bool (by decide)),h.2⟩
 by_cases h8232:r = 8232
 ·subst h8232; exact (refBlank_8232 w).mono fun e w' h=>⟨h.1.trans (ret_bool (by decide)),h.2⟩
 by_cases h8233:r = 8233
 ·subst h8233; exact (refBlank_8233 w).mono fun e w' h=>⟨h.1.trans (ret_bool (by decide)),h.2⟩
 by_cases h8239:r = 8239
 ·subst h8239; exact (refBlank_8239 w).mono fun e w' h=>⟨h.1.trans (ret_bool (by decide)),h.2⟩
 by_cases h8287:r = 8287
 ·subst h8287; exact (refBlank_8287 w).mono fun e w' h=>⟨h.1.trans (ret_bool (by decide)),h.2⟩
 by_cases h12288:r = 12288
 ·subst h12288; exact (refBlank_12288 w).mono fun e w' h=>⟨h.1.trans (ret_bool (by decide)),h.2⟩
 have hb:(8192 ≤ r∧r ≤ 8202)→blankB r = true:=fun h=>by rw [blankB_eq]; simp; omega
 have hn:¬ (8192 ≤ r∧r ≤ 8202)→blankB r = false:=fun h=>by rw [Bool.eq_false_iff,blankB_eq]; simp; omega
 by_cases h1:r < 8192
 ·rw [hn (by omega)]; exact refBlank_low r w h1 h32 h133 h160 h5760 h8232 h8233 h8239 h8287 h12288
 ·by_cases h2:r ≤ 8202
  ·rw [hb (by omega)]; exact refBlank_mid r w (by omega) h2
  ·rw [hn (by omega)]; exact refBlank_high r w (by omega) (by omega) h32 h133 h160 h5760 h8232 h8233 h8239 h8287 h12288
def folB (l:List UInt8) (k:Nat):Bool:=decide (k < l.length) && decide ((l.getD k 0).toNat / 64 = 2)
set_option maxHeartbeats 1000000 in
theorem follows_any (s:ByteArray) (k:Nat) (w:World) :
  Calls Tryz.prog 145 #[.string s,.int .i64 (k:Int)] w fun e w'=>e = .returned (.bool (folB s.data.toList k))∧w = w':=by
 have hsz:=size_list s
 by_cases h1:k < s.size
 ·obtain ⟨c,hc⟩:∃ c,s.data.toList[k]? = some c:=⟨_,List.getElem?_eq_getElem (by omega)⟩
  have hg:s.data.toList.getD k 0 = c:=by simp [List.getD,hc]
  have x0:=fun w=>run_idx (P:=Tryz.prog) Tryz.underlying9 s k c hc (k:Int) rfl .i64 w
  have hc256:=UInt8.toNat_lt c
  have hr:folB s.data.toList k = decide (c.toNat / 64 = 2):=by unfold folB; rw [hg,decide_eq_true (by omega)]; rfl
  rw [hr]
  clear hc hg hr hsz
  by_cases h2:128 ≤ c.toNat
  ·by_cases h3:c.toNat ≤ 191
   ·rw [decide_eq_true (by omega)]
    go_enter Tryz.func145,Tryz.ntmps145
    go_wp2
    go_ret
    exact ⟨ret_bool (by first | rfl | (simp; omega) | simp_all),rfl⟩
   ·rw [decide_eq_false (by omega)]
    go_enter Tryz.func145,Tryz.ntmps145
    go_wp2
    go_ret
    exact ⟨ret_bool (by first | rfl | (simp; omega) | simp_all),rfl⟩
  ·rw [decide_eq_false (by omega)]
   go_enter Tryz.func145,Tryz.ntmps145
   go_wp2
   go_ret
   exact ⟨ret_bool (by first | rfl | (simp; omega) | simp_all),rfl⟩
 ·have hr:folB s.data.toList k = false:=by unfold folB; rw [decide_eq_false (by omega)]; rfl
  rw [hr]
  clear hr hsz
  go_enter Tryz.func145,Tryz.ntmps145
  go_wp2
  go_ret
  exact ⟨ret_bool (by first | rfl | (simp; omega) | simp_all),rfl⟩
def firstOf (l:List UInt8):Nat × Nat:=if (Lib.decodeL l).1 = 65533∧(Lib.decodeL l).2 = 1 then (0,0) else Lib.decodeL l
def fol (n b k:Nat):Prop:=k < n∧b / 64 = 2
instance (n b k:Nat):Decidable (fol n b k):=inferInstanceAs (Decidable (_∧_))
def v3 (b0 b1 b2:Nat):Nat:=(b0 - 224) * 4096 + (b1 - 128) * 64 + (b2 - 128)
def v4 (b0 b1 b2 b3:Nat):Nat:=(b0 - 240) * 262144 + (b1 - 128) * 4096 + (b2 - 128) * 64 + (b3 - 128)
def firstN (n b0 b1 b2 b3:Nat):Nat × Nat:=
 if b0 < 128 then (b0,1)
 else if b0 < 194 then (0,0)
 else if b0 < 224 then (if fol n b1 1 then ((b0 - 192) * 64 + (b1 - 128),2) else (0,0))
 else if b0 < 240 then (if fol n b1 1∧fol n b2 2 then (if v3 b0 b1 b2 < 2048 ∨ (55296 ≤ v3 b0 b1 b2∧v3 b0 b1 b2 ≤ 57343) then (0,0) else (v3 b0 b1 b2,3)) else (0,0))
 else if b0 < 245 then (if fol n b1 1∧fol n b2 2∧fol n b3 3 then (if v4 b0 b1 b2 b3 < 65536 ∨ 1114111 < v4 b0 b1 b2 b3 then (0,0) else (v4 b0 b1 b2 b3,4)) else (0,0))
 else (0,0)
def bad1 (d:Nat × Nat):Nat × Nat:=if d.1 = 65533∧d.2 = 1 then (0,0) else d
theorem bad1_err:bad1 (65533,1) = (0,0):=rfl
theorem bad1_ok (x w:Nat) (h:w ≠ 1):bad1 (x,w) = (x,w):=by
 unfold bad1; rw [if_neg (fun e=>h e.2)]
set_option maxRecDepth 10000 in
theorem firstN_eq (n b0 b1 b2 b3:Nat) (h0:b0 < 256) (h1:b1 < 256) (h2:b2 < 256) (h3:b3 < 256):firstN n b0 b1 b2 b3 = bad1 (Lib.decodeN n b0 b1 b2 b3):=by
 unfold firstN
 by_cases c1:b0 < 128
 ·rw [if_pos c1,Lib.decodeN_ascii _ _ _ _ _ c1]
  unfold bad1
  rw [if_neg (by simp only; omega)]
 ·rw [if_neg c1]
  by_cases c2:b0 < 194
  ·rw [if_pos c2,Lib.decodeN_bad _ _ _ _ _ (.inl ⟨by omega,c2⟩),bad1_err]
  ·rw [if_neg c2]
   by_cases c3:b0 < 224
   ·rw [if_pos c3]
    unfold Lib.decodeN
    rw [if_neg c1]
    by_cases f:fol n b1 1
    ·rw [if_pos f,if_pos ⟨by omega,f⟩,if_pos (by unfold fol at f; omega),bad1_ok _ _ (by omega)]
     unfold fol at f
     congr 1
     omega
    ·rw [if_neg f,if_neg (fun e=>f e.2),if_neg (show ¬ (b0 / 16 = 14∧(1 < n∧b1 / 64 = 2)∧(2 < n∧b2 / 64 = 2)) by omega),if_neg (show ¬ (b0 / 8 = 30∧(1 < n∧b1 / 64 = 2)∧(2 < n∧b2 / 64 = 2)∧(3 < n∧b3 / 64 = 2)) by omega),bad1_err]
   ·rw [if_neg c3]
    by_cases c4:b0 < 240
    ·rw [if_pos c4]
     unfold Lib.decodeN
     rw [if_neg c1,if_neg (show ¬ (b0 / 32 = 6∧(1 < n∧b1 / 64 = 2)) by omega)]
     by_cases f:fol n b1 1∧fol n b2 2
     ·rw [if_pos f,if_pos (show b0 / 16 = 14∧(1 < n∧b1 / 64 = 2)∧(2 < n∧b2 / 64 = 2) from ⟨by omega,f.1,f.2⟩)]
      unfold fol at f
      have e:v3 b0 b1 b2 = b0 % 16 * 4096 + b1 % 64 * 64 + b2 % 64:=by unfold v3; omega
      rw [e]
      by_cases g:b0 % 16 * 4096 + b1 % 64 * 64 + b2 % 64 < 2048 ∨ (55296 ≤ b0 % 16 * 4096 + b1 % 64 * 64 + b2 % 64∧b0 % 16 * 4096 + b1 % 64 * 64 + b2 % 64 ≤ 57343)
      ·rw [if_pos g,if_neg (by omega),bad1_err]
      ·rw [if_neg g,if_pos (by omega),bad1_ok _ _ (by omega)]
     ·rw [if_neg f,if_neg (fun e=>f ⟨e.2.1,e.2.2⟩),if_neg (show ¬ (b0 / 8 = 30∧(1 < n∧b1 / 64 = 2)∧(2 < n∧b2 / 64 = 2)∧(3 < n∧b3 / 64 = 2)) by omega),bad1_err]
    ·rw [if_neg c4]
     by_cases c5:b0 < 245
     ·rw [if_pos c5]
      unfold Lib.decodeN
      rw [if_neg c1,if_neg (show ¬ (b0 / 32 = 6∧(1 < n∧b1 / 64 = 2)) by omega),if_neg (show ¬ (b0 / 16 = 14∧(1 < n∧b1 / 64 = 2)∧(2 < n∧b2 / 64 = 2)) by omega)]
      by_cases f:fol n b1 1∧fol n b2 2∧fol n b3 3
      ·rw [if_pos f,if_pos (show b0 / 8 = 30∧(1 < n∧b1 / 64 = 2)∧(2 < n∧b2 / 64 = 2)∧(3 < n∧b3 / 64 = 2) from ⟨by omega,f.1,f.2.1,f.2.2⟩)]
       unfold fol at f
       have e:v4 b0 b1 b2 b3 = b0 % 8 * 262144 + b1 % 64 * 4096 + b2 % 64 * 64 + b3 % 64:=by unfold v4; omega
       rw [e]
       by_cases g:b0 % 8 * 262144 + b1 % 64 * 4096 + b2 % 64 * 64 + b3 % 64 < 65536 ∨ 1114111 < b0 % 8 * 262144 + b1 % 64 * 4096 + b2 % 64 * 64 + b3 % 64
       ·rw [if_pos g,if_neg (by omega),bad1_err]
       ·rw [if_neg g,if_pos (by omega),bad1_ok _ _ (by omega)]
      ·rw [if_neg f,if_neg (fun e=>f ⟨e.2.1,e.2.2.1,e.2.2.2⟩),bad1_err]
     ·rw [if_neg c5,Lib.decodeN_bad _ _ _ _ _ (.inr ⟨by omega,h0⟩),bad1_err]
theorem firstOf_N (l:List UInt8):firstOf l = firstN l.length (l.getD 0 0).toNat (l.getD 1 0).toNat (l.getD 2 0).toNat (l.getD 3 0).toNat:=by
 rw [firstN_eq _ _ _ _ _ (UInt8.toNat_lt _) (UInt8.toNat_lt _) (UInt8.toNat_lt _) (UInt8.toNat_lt _),← Lib.decodeL_N]
 rfl
theorem goodD_first (bad:Int→Bool) (n:Nat) (l:List UInt8) (hne:l ≠ []):goodD bad (n + 1) l = if (firstOf l).2 = 0 then false else if bad (firstOf l).1 = true then false else goodD bad n (l.drop (firstOf l).2):=by
 have hw:=Lib.decodeL_width l
 conv=>lhs; unfold goodD
 rw [if_neg hne]
 unfold firstOf
 by_cases h:(Lib.decodeL l).1 = 65533∧(Lib.decodeL l).2 = 1
 ·rw [if_pos h,if_pos h,if_pos rfl]
 ·rw [if_neg h,if_neg h,if_neg (show ¬ (Lib.decodeL l).2 = 0 by omega)]
theorem fol_calls (s:ByteArray) (k:Nat) (b:Bool) (h:folB s.data.toList k = b) (w:World):Calls Tryz.prog 145 #[.string s,.int .i64 (k:Int)] w fun e w'=>e = .returned (.bool b)∧w = w':=by
 rw [← h]; exact follows_any s k w
theorem fol_at {l:List UInt8} {k:Nat} (h:folB l k = true):∃ c,l[k]? = some c∧l.getD k 0 = c∧c.toNat / 64 = 2:=by
 unfold folB at h
 simp only [Bool.and_eq_true,decide_eq_true_eq] at h
 refine ⟨l[k],List.getElem?_eq_getElem h.1,by simp [List.getD,h.1],?_⟩
 have:=h.2
 simpa [List.getD,h.1] using this
theorem fol_iff (l:List UInt8) (k:Nat):fol l.length (l.getD k 0).toNat k ↔ folB l k = true:=by
 unfold fol folB
 simp
set_option maxHeartbeats 1000000 in
set_option maxRecDepth 100000 in
theorem first_ascii (s:ByteArray) (a:UInt8) (w:World) (ha:s.data.toList[0]? = some a) (h:a.toNat < 128) :
  Calls Tryz.prog 120 #[.string s] w fun e w'=>e = .returned (.tuple #[.int .i32 (a.toNat:Int),.int .i64 1])∧∃ n,w' = w.drewN n:=by
 have x0:=fun w=>run_idx (P:=Tryz.prog) Tryz.underlying9 s 0 a ha 0 rfl .i64 w
 have a256:=UInt8.toNat_lt a
 clear ha
 go_enter Tryz.func120,Tryz.ntmps120
 go_wp2_with fail
 go_ret2
 exact ⟨rfl,0,rfl⟩
set_option maxHeartbeats 1000000 in
set_option maxRecDepth 100000 in
theorem first_low (s:ByteArray) (a:UInt8) (w:World) (ha:s.data.toList[0]? = some a) (h1:128 ≤ a.toNat) (h2:a.toNat < 194) :
  Calls Tryz.prog 120 #[.string s] w fun e w'=>e = .returned (.tuple #[.int .i32 0,.int .i64 0])∧∃ n,w' = w.drewN n:=by
 have x0:=fun w=>run_idx (P:=Tryz.prog) Tryz.underlying9 s 0 a ha 0 rfl .i64 w
 have a256:=UInt8.toNat_lt a
 clear ha
 go_enter Tryz.func120,Tryz.ntmps120
 go_wp2_with fail
 go_ret2
 exact ⟨rfl,0,rfl⟩
set_option maxHeartbeats 1000000 in
set_option maxRecDepth 100000 in
theorem first_high (s:ByteArray) (a:UInt8) (w:World) (ha:s.data.toList[0]? = some a) (h1:245 ≤ a.toNat) :
  Calls Tryz.prog 120 #[.string s] w fun e w'=>e = .returned (.tuple #[.int .i32 0,.int .i64 0])∧∃ n,w' = w.drewN n:=by
 have x0:=fun w=>run_idx (P:=Tryz.prog) Tryz.underlying9 s 0 a ha 0 rfl .i64 w
 have a256:=UInt8.toNat_lt a
 clear ha
 go_enter Tryz.func120,Tryz.ntmps120
 go_wp2_with fail
 go_ret2
 exact ⟨rfl,0,rfl⟩
set_option maxHeartbeats 1000000 in
set_option maxRecDepth 100000 in
theorem first_C_no (s:ByteArray) (a:UInt8) (w:World) (ha:s.data.toList[0]? = some a) (h1:194 ≤ a.toNat) (h2:a.toNat < 224) (f1:folB s.data.toList 1 = false) :
  Calls Tryz.prog 120 #[.string s] w fun e w'=>e = .returned (.tuple #[.int .i32 0,.int .i64 0])∧∃ n,w' = w.drewN n:=by
 have x0:=fun w=>run_idx (P:=Tryz.prog) Tryz.underlying9 s 0 a ha 0 rfl .i64 w
 have a256:=UInt8.toNat_lt a
 have F1:=fol_calls s 1 false f1
 have HF1:=hid F1
 clear ha f1 F1
 go_enter Tryz.func120,Tryz.ntmps120
 go_wp2_with fail
 refine (HF1.out _).mono ?_
 rintro e w1 ⟨rfl,rfl⟩
 go_wp2_with fail
 go_ret2
 exact ⟨rfl,0,rfl⟩
set_option maxHeartbeats 1000000 in
set_option maxRecDepth 100000 in
theorem first_E_no1 (s:ByteArray) (a:UInt8) (w:World) (ha:s.data.toList[0]? = some a) (h1:224 ≤ a.toNat) (h2:a.toNat < 240) (f1:folB s.data.toList 1 = false) :
  Calls Tryz.prog 120 #[.string s] w fun e w'=>e = .returned (.tuple #[.int .i32 0,.int .i64 0])∧∃ n,w' = w.drewN n:=by
 have x0:=fun w=>run_idx (P:=Tryz.prog) Tryz.underlying9 s 0 a ha 0 rfl .i64 w
 have a256:=UInt8.toNat_lt a
 have F1:=fol_calls s 1 false f1
 have HF1:=hid F1
 clear ha f1 F1
 go_enter Tryz.func120,Tryz.ntmps120
 go_wp2_with fail
 refine (HF1.out _).mono ?_
 rintro e w1 ⟨rfl,rfl⟩
 go_wp2_with fail
 go_ret2
 exact ⟨rfl,0,rfl⟩
set_option maxHeartbeats 1000000 in
set_option maxRecDepth 100000 in
theorem first_E_no2 (s:ByteArray) (a:UInt8) (w:World) (ha:s.data.toList[0]? = some a) (h1:224 ≤ a.toNat) (h2:a.toNat < 240) (f1:folB s.data.toList 1 = true) (f2:folB s.data.toList 2 = false) :
  Calls Tryz.prog 120 #[.string s] w fun e w'=>e = .returned (.tuple #[.int .i32 0,.int .i64 0])∧∃ n,w' = w.drewN n:=by
 have x0:=fun w=>run_idx (P:=Tryz.prog) Tryz.underlying9 s 0 a ha 0 rfl .i64 w
 have a256:=UInt8.toNat_lt a
 have F1:=fol_calls s 1 true f1
 have HF1:=hid F1
 have F2:=fol_calls s 2 false f2
 have HF2:=hid F2
 clear ha f1 F1 f2 F2
 go_enter Tryz.func120,Tryz.ntmps120
 go_wp2_with fail
 refine (HF1.out _).mono ?_
 rintro e w1 ⟨rfl,rfl⟩
 go_wp2_with fail
 refine (HF2.out _).mono ?_
 rintro e w2 ⟨rfl,rfl⟩
 go_wp2_with fail
 go_ret2
 exact ⟨rfl,0,rfl⟩
set_option maxHeartbeats 1000000 in
set_option maxRecDepth 100000 in
theorem first_F_no1 (s:ByteArray) (a:UInt8) (w:World) (ha:s.data.toList[0]? = some a) (h1:240 ≤ a.toNat) (h2:a.toNat < 245) (f1:folB s.data.toList 1 = false) :
  Calls Tryz.prog 120 #[.string s] w fun e w'=>e = .returned (.tuple #[.int .i32 0,.int .i64 0])∧∃ n,w' = w.drewN n:=by
 have x0:=fun w=>run_idx (P:=Tryz.prog) Tryz.underlying9 s 0 a ha 0 rfl .i64 w
 have a256:=UInt8.toNat_lt a
 have F1:=fol_calls s 1 false f1
 have HF1:=hid F1
 clear ha f1 F1
 go_enter Tryz.func120,Tryz.ntmps120
 go_wp2_with fail
 refine (HF1.out _).mono ?_
 rintro e w1 ⟨rfl,rfl⟩
 go_wp2_with fail
 go_ret2
 exact ⟨rfl,0,rfl⟩
set_option maxHeartbeats 1000000 in
set_option maxRecDepth 100000 in
theorem first_F_no2 (s:ByteArray) (a:UInt8) (w:World) (ha:s.data.toList[0]? = some a) (h1:240 ≤ a.toNat) (h2:a.toNat < 245) (f1:folB s.data.toList 1 = true) (f2:folB s.data.toList 2 = false) :
  Calls Tryz.prog 120 #[.string s] w fun e w'=>e = .returned (.tuple #[.int .i32 0,.int .i64 0])∧∃ n,w' = w.drewN n:=by
 have x0:=fun w=>run_idx (P:=Tryz.prog) Tryz.underlying9 s 0 a ha 0 rfl .i64 w
 have a256:=UInt8.toNat_lt a
 have F1:=fol_calls s 1 true f1
 have HF1:=hid F1
 have F2:=fol_calls s 2 false f2
 have HF2:=hid F2
 clear ha f1 F1 f2 F2
 go_enter Tryz.func120,Tryz.ntmps120
 go_wp2_with fail
 refine (HF1.out _).mono ?_
 rintro e w1 ⟨rfl,rfl⟩
 go_wp2_with fail
 refine (HF2.out _).mono ?_
 rintro e w2 ⟨rfl,rfl⟩
 go_wp2_with fail
 go_ret2
 exact ⟨rfl,0,rfl⟩
set_option maxHeartbeats 1000000 in
set_option maxRecDepth 100000 in
theorem first_F_no3 (s:ByteArray) (a:UInt8) (w:World) (ha:s.data.toList[0]? = some a) (h1:240 ≤ a.toNat) (h2:a.toNat < 245) (f1:folB s.data.toList 1 = true) (f2:folB s.data.toList 2 = true) (f3:folB s.data.toList 3 = false) :
  Calls Tryz.prog 120 #[.string s] w fun e w'=>e = .returned (.tuple #[.int .i32 0,.int .i64 0])∧∃ n,w' = w.drewN n:=by
 have x0:=fun w=>run_idx (P:=Tryz.prog) Tryz.underlying9 s 0 a ha 0 rfl .i64 w
 have a256:=UInt8.toNat_lt a
 have F1:=fol_calls s 1 true f1
 have HF1:=hid F1
 have F2:=fol_calls s 2 true f2
 have HF2:=hid F2
 have F3:=fol_calls s 3 false f3
 have HF3:=hid F3
 clear ha f1 F1 f2 F2 f3 F3
 go_enter Tryz.func120,Tryz.ntmps120
 go_wp2_with fail
 refine (HF1.out _).mono ?_
 rintro e w1 ⟨rfl,rfl⟩
 go_wp2_with fail
 refine (HF2.out _).mono ?_
 rintro e w2 ⟨rfl,rfl⟩
 go_wp2_with fail
 refine (HF3.out _).mono ?_
 rintro e w3 ⟨rfl,rfl⟩
 go_wp2_with fail
 go_ret2
 exact ⟨rfl,0,rfl⟩
set_option maxHeartbeats 1000000 in
set_option maxRecDepth 100000 in
theorem first_C (s:ByteArray) (a:UInt8) (w:World) (ha:s.data.toList[0]? = some a) (h1:194 ≤ a.toNat) (h2:a.toNat < 224) (f1:folB s.data.toList 1 = true) (b1:UInt8) (e1:s.data.toList[1]? = some b1) (q1:b1.toNat / 64 = 2) :
  Calls Tryz.prog 120 #[.string s] w fun e w'=>e = .returned (.tuple #[.int .i32 (((a.toNat - 192) * 64 + (b1.toNat - 128):Nat):Int),.int .i64 2])∧∃ n,w' = w.drewN n:=by
 have x0:=fun w=>run_idx (P:=Tryz.prog) Tryz.underlying9 s 0 a ha 0 rfl .i64 w
 have a256:=UInt8.toNat_lt a
 have F1:=fol_calls s 1 true f1
 have HF1:=hid F1
 have x1:=fun w=>run_idx (P:=Tryz.prog) Tryz.underlying9 s 1 b1 e1 1 rfl .i64 w
 have b1256:=UInt8.toNat_lt b1
 clear e1
 clear ha f1 F1
 go_enter Tryz.func120,Tryz.ntmps120
 go_wp2_with fail
 refine (HF1.out _).mono ?_
 rintro e w1 ⟨rfl,rfl⟩
 go_wp2_with fail
 go_ret2
 refine ⟨?_,0,rfl⟩
 congr 3
 go_num
set_option maxHeartbeats 1000000 in
set_option maxRecDepth 100000 in
theorem first_E_lt (s:ByteArray) (a:UInt8) (w:World) (ha:s.data.toList[0]? = some a) (h1:224 ≤ a.toNat) (h2:a.toNat < 240) (f1:folB s.data.toList 1 = true) (f2:folB s.data.toList 2 = true) (b1:UInt8) (e1:s.data.toList[1]? = some b1) (q1:b1.toNat / 64 = 2) (b2:UInt8) (e2:s.data.toList[2]? = some b2) (q2:b2.toNat / 64 = 2) (hc:v3 a.toNat b1.toNat b2.toNat < 2048) :
  Calls Tryz.prog 120 #[.string s] w fun e w'=>e = .returned (.tuple #[.int .i32 0,.int .i64 0])∧∃ n,w' = w.drewN n:=by
 have x0:=fun w=>run_idx (P:=Tryz.prog) Tryz.underlying9 s 0 a ha 0 rfl .i64 w
 have a256:=UInt8.toNat_lt a
 have F1:=fol_calls s 1 true f1
 have HF1:=hid F1
 have F2:=fol_calls s 2 true f2
 have HF2:=hid F2
 have x1:=fun w=>run_idx (P:=Tryz.prog) Tryz.underlying9 s 1 b1 e1 1 rfl .i64 w
 have b1256:=UInt8.toNat_lt b1
 have x2:=fun w=>run_idx (P:=Tryz.prog) Tryz.underlying9 s 2 b2 e2 2 rfl .i64 w
 have b2256:=UInt8.toNat_lt b2
 unfold v3 at hc
 clear e1 e2
 clear ha f1 F1 f2 F2
 go_enter Tryz.func120,Tryz.ntmps120
 go_wp2_with fail
 refine (HF1.out _).mono ?_
 rintro e w1 ⟨rfl,rfl⟩
 go_wp2_with fail
 refine (HF2.out _).mono ?_
 rintro e w2 ⟨rfl,rfl⟩
 go_wp2_with fail
 go_quiet (fail)
 go_wp2_with fail
 go_ret2
 exact ⟨rfl,_,rfl⟩
set_option maxHeartbeats 1000000 in
set_option maxRecDepth 100000 in
theorem first_E_sur (s:ByteArray) (a:UInt8) (w:World) (ha:s.data.toList[0]? = some a) (h1:224 ≤ a.toNat) (h2:a.toNat < 240) (f1:folB s.data.toList 1 = true) (f2:folB s.data.toList 2 = true) (b1:UInt8) (e1:s.data.toList[1]? = some b1) (q1:b1.toNat / 64 = 2) (b2:UInt8) (e2:s.data.toList[2]? = some b2) (q2:b2.toNat / 64 = 2) (hc:55296 ≤ v3 a.toNat b1.toNat b2.toNat∧v3 a.toNat b1.toNat b2.toNat ≤ 57343) :
  Calls Tryz.prog 120 #[.string s] w fun e w'=>e = .returned (.tuple #[.int .i32 0,.int .i64 0])∧∃ n,w' = w.drewN n:=by
 have x0:=fun w=>run_idx (P:=Tryz.prog) Tryz.underlying9 s 0 a ha 0 rfl .i64 w
 have a256:=UInt8.toNat_lt a
 have F1:=fol_calls s 1 true f1
 have HF1:=hid F1
 have F2:=fol_calls s 2 true f2
 have HF2:=hid F2
 have x1:=fun w=>run_idx (P:=Tryz.prog) Tryz.underlying9 s 1 b1 e1 1 rfl .i64 w
 have b1256:=UInt8.toNat_lt b1
 have x2:=fun w=>run_idx (P:=Tryz.prog) Tryz.underlying9 s 2 b2 e2 2 rfl .i64 w
 have b2256:=UInt8.toNat_lt b2
 unfold v3 at hc
 clear e1 e2
 clear ha f1 F1 f2 F2
 go_enter Tryz.func120,Tryz.ntmps120
 go_wp2_with fail
 refine (HF1.out _).mono ?_
 rintro e w1 ⟨rfl,rfl⟩
 go_wp2_with fail
 refine (HF2.out _).mono ?_
 rintro e w2 ⟨rfl,rfl⟩
 go_wp2_with fail
 go_quiet (fail)
 go_wp2_with fail
 go_ret2
 exact ⟨rfl,_,rfl⟩
set_option maxHeartbeats 1000000 in
set_option maxRecDepth 100000 in
theorem first_E_lo (s:ByteArray) (a:UInt8) (w:World) (ha:s.data.toList[0]? = some a) (h1:224 ≤ a.toNat) (h2:a.toNat < 240) (f1:folB s.data.toList 1 = true) (f2:folB s.data.toList 2 = true) (b1:UInt8) (e1:s.data.toList[1]? = some b1) (q1:b1.toNat / 64 = 2) (b2:UInt8) (e2:s.data.toList[2]? = some b2) (q2:b2.toNat / 64 = 2) (hc:2048 ≤ v3 a.toNat b1.toNat b2.toNat∧v3 a.toNat b1.toNat b2.toNat < 55296) :
  Calls Tryz.prog 120 #[.string s] w fun e w'=>e = .returned (.tuple #[.int .i32 ((v3 a.toNat b1.toNat b2.toNat:Nat):Int),.int .i64 3])∧∃ n,w' = w.drewN n:=by
 have x0:=fun w=>run_idx (P:=Tryz.prog) Tryz.underlying9 s 0 a ha 0 rfl .i64 w
 have a256:=UInt8.toNat_lt a
 have F1:=fol_calls s 1 true f1
 have HF1:=hid F1
 have F2:=fol_calls s 2 true f2
 have HF2:=hid F2
 have x1:=fun w=>run_idx (P:=Tryz.prog) Tryz.underlying9 s 1 b1 e1 1 rfl .i64 w
 have b1256:=UInt8.toNat_lt b1
 have x2:=fun w=>run_idx (P:=Tryz.prog) Tryz.underlying9 s 2 b2 e2 2 rfl .i64 w
 have b2256:=UInt8.toNat_lt b2
 unfold v3 at hc
 unfold v3
 clear e1 e2
 clear ha f1 F1 f2 F2
 go_enter Tryz.func120,Tryz.ntmps120
 go_wp2_with fail
 refine (HF1.out _).mono ?_
 rintro e w1 ⟨rfl,rfl⟩
 go_wp2_with fail
 refine (HF2.out _).mono ?_
 rintro e w2 ⟨rfl,rfl⟩
 go_wp2_with fail
 go_quiet (fail)
 go_wp2_with fail
 go_ret2
 refine ⟨?_,_,rfl⟩
 congr 3
 go_num
set_option maxHeartbeats 1000000 in
set_option maxRecDepth 100000 in
theorem first_E_hi (s:ByteArray) (a:UInt8) (w:World) (ha:s.data.toList[0]? = some a) (h1:224 ≤ a.toNat) (h2:a.toNat < 240) (f1:folB s.data.toList 1 = true) (f2:folB s.data.toList 2 = true) (b1:UInt8) (e1:s.data.toList[1]? = some b1) (q1:b1.toNat / 64 = 2) (b2:UInt8) (e2:s.data.toList[2]? = some b2) (q2:b2.toNat / 64 = 2) (hc:57343 < v3 a.toNat b1.toNat b2.toNat) :
  Calls Tryz.prog 120 #[.string s] w fun e w'=>e = .returned (.tuple #[.int .i32 ((v3 a.toNat b1.toNat b2.toNat:Nat):Int),.int .i64 3])∧∃ n,w' = w.drewN n:=by
 have x0:=fun w=>run_idx (P:=Tryz.prog) Tryz.underlying9 s 0 a ha 0 rfl .i64 w
 have a256:=UInt8.toNat_lt a
 have F1:=fol_calls s 1 true f1
 have HF1:=hid F1
 have F2:=fol_calls s 2 true f2
 have HF2:=hid F2
 have x1:=fun w=>run_idx (P:=Tryz.prog) Tryz.underlying9 s 1 b1 e1 1 rfl .i64 w
 have b1256:=UInt8.toNat_lt b1
 have x2:=fun w=>run_idx (P:=Tryz.prog) Tryz.underlying9 s 2 b2 e2 2 rfl .i64 w
 have b2256:=UInt8.toNat_lt b2
 unfold v3 at hc
 unfold v3
 clear e1 e2
 clear ha f1 F1 f2 F2
 go_enter Tryz.func120,Tryz.ntmps120
 go_wp2_with fail
 refine (HF1.out _).mono ?_
 rintro e w1 ⟨rfl,rfl⟩
 go_wp2_with fail
 refine (HF2.out _).mono ?_
 rintro e w2 ⟨rfl,rfl⟩
 go_wp2_with fail
 go_quiet (fail)
 go_wp2_with fail
 go_ret2
 refine ⟨?_,_,rfl⟩
 congr 3
 go_num
set_option maxHeartbeats 1000000 in
set_option maxRecDepth 100000 in
theorem first_F_lt (s:ByteArray) (a:UInt8) (w:World) (ha:s.data.toList[0]? = some a) (h1:240 ≤ a.toNat) (h2:a.toNat < 245) (f1:folB s.data.toList 1 = true) (f2:folB s.data.toList 2 = true) (f3:folB s.data.toList 3 = true) (b1:UInt8) (e1:s.data.toList[1]? = some b1) (q1:b1.toNat / 64 = 2) (b2:UInt8) (e2:s.data.toList[2]? = some b2) (q2:b2.toNat / 64 = 2) (b3:UInt8) (e3:s.data.toList[3]? = some b3) (q3:b3.toNat / 64 = 2) (hc:v4 a.toNat b1.toNat b2.toNat b3.toNat < 65536) :
  Calls Tryz.prog 120 #[.string s] w fun e w'=>e = .returned (.tuple #[.int .i32 0,.int .i64 0])∧∃ n,w' = w.drewN n:=by
 have x0:=fun w=>run_idx (P:=Tryz.prog) Tryz.underlying9 s 0 a ha 0 rfl .i64 w
 have a256:=UInt8.toNat_lt a
 have F1:=fol_calls s 1 true f1
 have HF1:=hid F1
 have F2:=fol_calls s 2 true f2
 have HF2:=hid F2
 have F3:=fol_calls s 3 true f3
 have HF3:=hid F3
 have x1:=fun w=>run_idx (P:=Tryz.prog) Tryz.underlying9 s 1 b1 e1 1 rfl .i64 w
 have b1256:=UInt8.toNat_lt b1
 have x2:=fun w=>run_idx (P:=Tryz.prog) Tryz.underlying9 s 2 b2 e2 2 rfl .i64 w
 have b2256:=UInt8.toNat_lt b2
 have x3:=fun w=>run_idx (P:=Tryz.prog) Tryz.underlying9 s 3 b3 e3 3 rfl .i64 w
 have b3256:=UInt8.toNat_lt b3
 unfold v4 at hc
 clear e1 e2 e3
 clear ha f1 F1 f2 F2 f3 F3
 go_enter Tryz.func120,Tryz.ntmps120
 go_wp2_with fail
 refine (HF1.out _).mono ?_
 rintro e w1 ⟨rfl,rfl⟩
 go_wp2_with fail
 refine (HF2.out _).mono ?_
 rintro e w2 ⟨rfl,rfl⟩
 go_wp2_with fail
 refine (HF3.out _).mono ?_
 rintro e w3 ⟨rfl,rfl⟩
 go_wp2_with fail
 go_quiet (fail)
 go_wp2_with fail
 go_ret2
 exact ⟨rfl,_,rfl⟩
set_option maxHeartbeats 1000000 in
set_option maxRecDepth 100000 in
theorem first_F_gt (s:ByteArray) (a:UInt8) (w:World) (ha:s.data.toList[0]? = some a) (h1:240 ≤ a.toNat) (h2:a.toNat < 245) (f1:folB s.data.toList 1 = true) (f2:folB s.data.toList 2 = true) (f3:folB s.data.toList 3 = true) (b1:UInt8) (e1:s.data.toList[1]? = some b1) (q1:b1.toNat / 64 = 2) (b2:UInt8) (e2:s.data.toList[2]? = some b2) (q2:b2.toNat / 64 = 2) (b3:UInt8) (e3:s.data.toList[3]? = some b3) (q3:b3.toNat / 64 = 2) (hc:1114111 < v4 a.toNat b1.toNat b2.toNat b3.toNat) :
  Calls Tryz.prog 120 #[.string s] w fun e w'=>e = .returned (.tuple #[.int .i32 0,.int .i64 0])∧∃ n,w' = w.drewN n:=by
 have x0:=fun w=>run_idx (P:=Tryz.prog) Tryz.underlying9 s 0 a ha 0 rfl .i64 w
 have a256:=UInt8.toNat_lt a
 have F1:=fol_calls s 1 true f1
 have HF1:=hid F1
 have F2:=fol_calls s 2 true f2
 have HF2:=hid F2
 have F3:=fol_calls s 3 true f3
 have HF3:=hid F3
 have x1:=fun w=>run_idx (P:=Tryz.prog) Tryz.underlying9 s 1 b1 e1 1 rfl .i64 w
 have b1256:=UInt8.toNat_lt b1
 have x2:=fun w=>run_idx (P:=Tryz.prog) Tryz.underlying9 s 2 b2 e2 2 rfl .i64 w
 have b2256:=UInt8.toNat_lt b2
 have x3:=fun w=>run_idx (P:=Tryz.prog) Tryz.underlying9 s 3 b3 e3 3 rfl .i64 w
 have b3256:=UInt8.toNat_lt b3
 unfold v4 at hc
 clear e1 e2 e3
 clear ha f1 F1 f2 F2 f3 F3
 go_enter Tryz.func120,Tryz.ntmps120
 go_wp2_with fail
 refine (HF1.out _).mono ?_
 rintro e w1 ⟨rfl,rfl⟩
 go_wp2_with fail
 refine (HF2.out _).mono ?_
 rintro e w2 ⟨rfl,rfl⟩
 go_wp2_with fail
 refine (HF3.out _).mono ?_
 rintro e w3 ⟨rfl,rfl⟩
 go_wp2_with fail
 go_quiet (fail)
 go_wp2_with fail
 go_ret2
 exact ⟨rfl,_,rfl⟩
set_option maxHeartbeats 1000000 in
set_option maxRecDepth 100000 in
theorem first_F_ok (s:ByteArray) (a:UInt8) (w:World) (ha:s.data.toList[0]? = some a) (h1:240 ≤ a.toNat) (h2:a.toNat < 245) (f1:folB s.data.toList 1 = true) (f2:folB s.data.toList 2 = true) (f3:folB s.data.toList 3 = true) (b1:UInt8) (e1:s.data.toList[1]? = some b1) (q1:b1.toNat / 64 = 2) (b2:UInt8) (e2:s.data.toList[2]? = some b2) (q2:b2.toNat / 64 = 2) (b3:UInt8) (e3:s.data.toList[3]? = some b3) (q3:b3.toNat / 64 = 2) (hc:65536 ≤ v4 a.toNat b1.toNat b2.toNat b3.toNat∧v4 a.toNat b1.toNat b2.toNat b3.toNat ≤ 1114111) :
  Calls Tryz.prog 120 #[.string s] w fun e w'=>e = .returned (.tuple #[.int .i32 ((v4 a.toNat b1.toNat b2.toNat b3.toNat:Nat):Int),.int .i64 4])∧∃ n,w' = w.drewN n:=by
 have x0:=fun w=>run_idx (P:=Tryz.prog) Tryz.underlying9 s 0 a ha 0 rfl .i64 w
 have a256:=UInt8.toNat_lt a
 have F1:=fol_calls s 1 true f1
 have HF1:=hid F1
 have F2:=fol_calls s 2 true f2
 have HF2:=hid F2
 have F3:=fol_calls s 3 true f3
 have HF3:=hid F3
 have x1:=fun w=>run_idx (P:=Tryz.prog) Tryz.underlying9 s 1 b1 e1 1 rfl .i64 w
 have b1256:=UInt8.toNat_lt b1
 have x2:=fun w=>run_idx (P:=Tryz.prog) Tryz.underlying9 s 2 b2 e2 2 rfl .i64 w
 have b2256:=UInt8.toNat_lt b2
 have x3:=fun w=>run_idx (P:=Tryz.prog) Tryz.underlying9 s 3 b3 e3 3 rfl .i64 w
 have b3256:=UInt8.toNat_lt b3
 unfold v4 at hc
 unfold v4
 clear e1 e2 e3
 clear ha f1 F1 f2 F2 f3 F3
 go_enter Tryz.func120,Tryz.ntmps120
 go_wp2_with fail
 refine (HF1.out _).mono ?_
 rintro e w1 ⟨rfl,rfl⟩
 go_wp2_with fail
 refine (HF2.out _).mono ?_
 rintro e w2 ⟨rfl,rfl⟩
 go_wp2_with fail
 refine (HF3.out _).mono ?_
 rintro e w3 ⟨rfl,rfl⟩
 go_wp2_with fail
 go_quiet (fail)
 go_wp2_with fail
 go_ret2
 refine ⟨?_,_,rfl⟩
 congr 3
 go_num
theorem first_any (s:ByteArray) (w:World) (hne:s.data.toList ≠ []) :
  Calls Tryz.prog 120 #[.string s] w fun e w'=>e = .returned (.tuple #[.int .i32 ((firstOf s.data.toList).1:Int),.int .i64 ((firstOf s.data.toList).2:Int)])∧∃ n,w' = w.drewN n:=by
 obtain ⟨a,r,hl⟩:=List.exists_cons_of_ne_nil hne
 have ha:s.data.toList[0]? = some a:=by rw [hl]; rfl
 have hg:s.data.toList.getD 0 0 = a:=by rw [hl]; rfl
 have a256:=UInt8.toNat_lt a
 have key:=firstOf_N s.data.toList
 have i1:=fol_iff s.data.toList 1
 have i2:=fol_iff s.data.toList 2
 have i3:=fol_iff s.data.toList 3
 rw [hg] at key
 clear hl hg hne
 unfold firstN at key
 by_cases c1:a.toNat < 128
 ·rw [if_pos c1] at key; rw [key]; exact first_ascii s a w ha c1
 ·rw [if_neg c1] at key
  by_cases c2:a.toNat < 194
  ·rw [if_pos c2] at key; rw [key]; exact first_low s a w ha (by omega) c2
  ·rw [if_neg c2] at key
   by_cases c3:a.toNat < 224
   ·rw [if_pos c3] at key
    cases f1:folB s.data.toList 1 with
    | false=>rw [if_neg (by rw [i1,f1]; simp)] at key; rw [key]; exact first_C_no s a w ha (by omega) c3 f1
    | true=>
     obtain ⟨b1,e1,g1,q1⟩:=fol_at f1
     rw [if_pos (i1.2 f1),g1] at key; rw [key]; exact first_C s a w ha (by omega) c3 f1 b1 e1 q1
   ·rw [if_neg c3] at key
    by_cases c4:a.toNat < 240
    ·rw [if_pos c4] at key
     cases f1:folB s.data.toList 1 with
     | false=>rw [if_neg (by rw [i1,f1]; simp)] at key; rw [key]; exact first_E_no1 s a w ha (by omega) c4 f1
     | true=>
      cases f2:folB s.data.toList 2 with
      | false=>rw [if_neg (by rw [i2,f2]; simp)] at key; rw [key]; exact first_E_no2 s a w ha (by omega) c4 f1 f2
      | true=>
       obtain ⟨b1,e1,g1,q1⟩:=fol_at f1
       obtain ⟨b2,e2,g2,q2⟩:=fol_at f2
       rw [if_pos ⟨i1.2 f1,i2.2 f2⟩,g1,g2] at key
       split at key
       ·rename_i hc
        rw [key]
        rcases hc with hc | hc
        ·exact first_E_lt s a w ha (by omega) c4 f1 f2 b1 e1 q1 b2 e2 q2 hc
        ·exact first_E_sur s a w ha (by omega) c4 f1 f2 b1 e1 q1 b2 e2 q2 hc
       ·rename_i hc
        rw [key]
        by_cases hx:57343 < v3 a.toNat b1.toNat b2.toNat
        ·exact first_E_hi s a w ha (by omega) c4 f1 f2 b1 e1 q1 b2 e2 q2 hx
        ·exact first_E_lo s a w ha (by omega) c4 f1 f2 b1 e1 q1 b2 e2 q2 (by omega)
    ·rw [if_neg c4] at key
     by_cases c5:a.toNat < 245
     ·rw [if_pos c5] at key
      cases f1:folB s.data.toList 1 with
      | false=>rw [if_neg (by rw [i1,f1]; simp)] at key; rw [key]; exact first_F_no1 s a w ha (by omega) c5 f1
      | true=>
       cases f2:folB s.data.toList 2 with
       | false=>rw [if_neg (by rw [i2,f2]; simp)] at key; rw [key]; exact first_F_no2 s a w ha (by omega) c5 f1 f2
       | true=>
        cases f3:folB s.data.toList 3 with
        | false=>rw [if_neg (by rw [i3,f3]; simp)] at key; rw [key]; exact first_F_no3 s a w ha (by omega) c5 f1 f2 f3
        | true=>
         obtain ⟨b1,e1,g1,q1⟩:=fol_at f1
         obtain ⟨b2,e2,g2,q2⟩:=fol_at f2
         obtain ⟨b3,e3,g3,q3⟩:=fol_at f3
         rw [if_pos ⟨i1.2 f1,i2.2 f2,i3.2 f3⟩,g1,g2,g3] at key
         split at key
         ·rename_i hc
          rw [key]
          rcases hc with hc | hc
          ·exact first_F_lt s a w ha (by omega) c5 f1 f2 f3 b1 e1 q1 b2 e2 q2 b3 e3 q3 hc
          ·exact first_F_gt s a w ha (by omega) c5 f1 f2 f3 b1 e1 q1 b2 e2 q2 b3 e3 q3 hc
         ·rename_i hc
          rw [key]
          exact first_F_ok s a w ha (by omega) c5 f1 f2 f3 b1 e1 q1 b2 e2 q2 b3 e3 q3 (by omega)
     ·rw [if_neg c5] at key; rw [key]; exact first_high s a w ha (by omega)
theorem first_bel (s:ByteArray) (w:World) (hne:s.data.toList ≠ []) :
  Calls Tryz.prog 120 #[.string s] w fun e w'=>e = .returned (.tuple #[.int .i32 ((firstOf s.data.toList).1:Int),.int .i64 ((firstOf s.data.toList).2:Int)])∧Below w.heap.size w w':=
 (first_any s w hne).mono fun _ _ ⟨he,n,hn⟩=>⟨he,hn ▸ below_drewN (Below.refl _ _) n⟩
theorem firstOf_le (l:List UInt8) (hne:l ≠ []):(firstOf l).2 ≤ l.length:=by
 unfold firstOf
 split
 ·exact Nat.zero_le _
 ·exact Lib.decodeL_le l hne
def ClearRel (bad:Int→Bool) (s:ByteArray) (w:World) (v:Value) (wr:World):Prop:=
 ∃ t:ByteArray,v = .string t∧t.size ≤ s.size∧Below w.heap.size w wr∧goodD bad s.size s.data.toList = goodD bad t.size t.data.toList
theorem extract_size (t:ByteArray) (n:Nat):(t.extract n t.size).size = t.size - n:=by
 have e:=size_list (t.extract n t.size)
 rw [Lib.extract_to_end,List.length_drop,size_list] at e
 exact e.symm
set_option maxHeartbeats 2000000 in
set_option maxRecDepth 100000 in
theorem clear_true (s:ByteArray) (w:World) :
  Calls Tryz.prog 83 #[.string s,.bool true,.bool false] w fun e w'=>e = .returned (.bool (goodD badName s.size s.data.toList))∧Below w.heap.size w w':=by
 go_enter Tryz.func83,Tryz.ntmps83
 go_wp2_with fail
 go_loopw [0] (fun v wr=>ClearRel badName s w v wr) (fun v _=>strLen v)
 case atStart=>exact ⟨s,rfl,Nat.le_refl _,Below.refl _ _,rfl⟩
 case round=>
  obtain ⟨t,rfl,hts,hbel,hg⟩:=hrel
  have HG:=hid hg
  clear hg
  by_cases h0:t.size = 0
  ·have hf:goodD badName s.size s.data.toList = true:=by rw [HG.out,h0]; rfl
   have HF:=hid hf
   clear hf
   go_wp2_with fail
   go_ret
   exact ⟨ret_bool (by rw [HF.out]),hbel⟩
  ·have hsz:=size_list t
   have hne:t.data.toList ≠ []:=fun e=>by rw [e] at hsz; simp at hsz; omega
   obtain ⟨m,hm⟩:∃ m,t.size = m + 1:=⟨t.size - 1,by omega⟩
   have hst:=goodD_first badName m t.data.toList hne
   rw [← hm,← HG.out] at hst
   have hle:=firstOf_le t.data.toList hne
   rw [hsz] at hle
   have HC:=hid (first_bel t wr hne)
   have hfu:∀ n,n ≠ 0→n ≤ t.size→goodD badName m (t.data.toList.drop n) = goodD badName (t.extract n t.size).size (t.extract n t.size).data.toList:=fun n _ _=>by
    rw [Lib.extract_to_end]
    exact goodD_fuel _ _ _ _ (by rw [List.length_drop]; omega) (by rw [extract_size t n,List.length_drop]; omega)
   have hes:=fun n=>extract_size t n
   have HFU:=hid hfu
   have HES:=hid hes
   clear hne hfu hes hm
   generalize firstOf t.data.toList = pr at *
   obtain ⟨R,n⟩:=pr
   simp only at hst hle HC
   have HST:=hid hst
   clear hst hsz
   by_cases hn:n = 0
   ·subst hn
    have hf:goodD badName s.size s.data.toList = false:=by rw [HST.out,if_pos rfl]
    have HF:=hid hf
    clear hf
    go_wp2_with (go_at_call 120; refine HC.out.mono ?_; rintro e w1 ⟨rfl,b1⟩)
    go_ret
    exact ⟨ret_bool (by rw [HF.out]),hbel.trans (b1.mono hbel.size)⟩
   ·have hn':((n:Int) == 0) = false:=by rw [beq_eq_false_iff_ne]; omega
    cases hc:controlB R with
    | true=>
     have hC:∀ W,Calls Tryz.prog 121 #[.int .i32 R] W fun e w'=>e = .returned (.bool true)∧W = w':=fun W=>by have:=refControl_any R W; rwa [hc] at this
     have HCT:=hid hC
     have hf:goodD badName s.size s.data.toList = false:=by rw [HST.out,if_neg hn,if_pos (by simp [badName,hc])]
     have HF:=hid hf
     clear hf hc hC hn
     go_wp2_with (first | (go_at_call 120; refine HC.out.mono ?_; rintro e w1 ⟨rfl,b1⟩) | (go_at_call 121; refine (HCT.out _).mono ?_; rintro e w2 ⟨rfl,rfl⟩))
     go_ret
     exact ⟨ret_bool (by rw [HF.out]),hbel.trans (b1.mono hbel.size)⟩
    | false=>
     have hC:∀ W,Calls Tryz.prog 121 #[.int .i32 R] W fun e w'=>e = .returned (.bool false)∧W = w':=fun W=>by have:=refControl_any R W; rwa [hc] at this
     have HCT:=hid hC
     cases hbk:blankB R with
     | true=>
      have hD:∀ W,Calls Tryz.prog 122 #[.int .i32 R] W fun e w'=>e = .returned (.bool true)∧W = w':=fun W=>by have:=refBlank_any R W; rwa [hbk] at this
      have HD:=hid hD
      have hf:goodD badName s.size s.data.toList = false:=by rw [HST.out,if_neg hn,if_pos (by simp [badName,hbk])]
      have HF:=hid hf
      clear hf hc hC hbk hD hn
      go_wp2_with (first | (go_at_call 120; refine HC.out.mono ?_; rintro e w1 ⟨rfl,b1⟩) | (go_at_call 121; refine (HCT.out _).mono ?_; rintro e w2 ⟨rfl,rfl⟩) | (go_at_call 122; refine (HD.out _).mono ?_; rintro e w3 ⟨rfl,rfl⟩))
      go_ret
      exact ⟨ret_bool (by rw [HF.out]),hbel.trans (b1.mono hbel.size)⟩
     | false=>
      have hD:∀ W,Calls Tryz.prog 122 #[.int .i32 R] W fun e w'=>e = .returned (.bool false)∧W = w':=fun W=>by have:=refBlank_any R W; rwa [hbk] at this
      have HD:=hid hD
      by_cases h43:R = 43
      ·have hf:goodD badName s.size s.data.toList = false:=by rw [HST.out,if_neg hn,if_pos (by simp [badName,h43])]
       have HF:=hid hf
       have h43':((R:Int) == 43) = true:=by rw [h43]; rfl
       clear hf hc hC hbk hD hn h43
       go_wp2_with (first | (go_at_call 120; refine HC.out.mono ?_; rintro e w1 ⟨rfl,b1⟩) | (go_at_call 121; refine (HCT.out _).mono ?_; rintro e w2 ⟨rfl,rfl⟩) | (go_at_call 122; refine (HD.out _).mono ?_; rintro e w3 ⟨rfl,rfl⟩))
       go_ret
       exact ⟨ret_bool (by rw [HF.out]),hbel.trans (b1.mono hbel.size)⟩
      ·have hf:goodD badName s.size s.data.toList = goodD badName (t.extract n t.size).size (t.extract n t.size).data.toList:=by rw [HST.out,if_neg hn,if_neg (by simp [badName,hbk,hc]; omega),HFU.out n hn hle]
       have HF:=hid hf
       have h43':((R:Int) == 43) = false:=by rw [beq_eq_false_iff_ne]; omega
       clear hf hc hC hbk hD h43
       go_wp2_with (first | (go_at_call 120; refine HC.out.mono ?_; rintro e w1 ⟨rfl,b1⟩) | (go_at_call 121; refine (HCT.out _).mono ?_; rintro e w2 ⟨rfl,rfl⟩) | (go_at_call 122; refine (HD.out _).mono ?_; rintro e w3 ⟨rfl,rfl⟩))
       go_roundw
       case rel=>exact ⟨_,rfl,by rw [HES.out n]; omega,hbel.trans (b1.mono hbel.size),HF.out⟩
       case measure=>simp [strLen,HES.out n]; omega
theorem refName_any (s:ByteArray) (w:World) :
  Calls Tryz.prog 39 #[.string s] w fun e w'=>e = .returned (.bool (nameOf s.data.toList))∧Below w.heap.size w w':=by
 have hsz:=size_list s
 by_cases h1:s.size < 1
 ·have hr:nameOf s.data.toList = false:=by unfold nameOf; rw [hsz]; simp; omega
  rw [hr]
  clear hr hsz
  go_enter Tryz.func39,Tryz.ntmps39
  go_wp2_with fail
  go_ret
  exact ⟨rfl,Below.refl _ _⟩
 ·by_cases h2:64 < s.size
  ·have hr:nameOf s.data.toList = false:=by unfold nameOf; rw [hsz]; simp; omega
   rw [hr]
   clear hr hsz
   go_enter Tryz.func39,Tryz.ntmps39
   go_wp2_with fail
   go_ret
   exact ⟨rfl,Below.refl _ _⟩
  ·have hr:nameOf s.data.toList = goodD badName s.size s.data.toList:=by unfold nameOf; rw [hsz]; simp; omega
   rw [hr]
   clear hr hsz
   have HC:=hid (clear_true s w)
   go_enter Tryz.func39,Tryz.ntmps39
   go_wp2_with (go_at_call 83; refine HC.out.mono ?_; rintro e w1 ⟨rfl,b1⟩)
   go_ret
   exact ⟨rfl,b1⟩
theorem ret_int {k:IntKind} {a b:Int} (h:a = b):Ending.returned (.int k a) = Ending.returned (.int k b):=by rw [h]
theorem drop_cons {l:List UInt8} {k:Nat} {c:UInt8} (h:l[k]? = some c):l.drop k = c :: l.drop (k + 1):=by
 have hlt:=(List.getElem?_eq_some_iff.1 h).1
 rw [List.drop_eq_getElem_cons hlt]
 congr 1
 exact (List.getElem?_eq_some_iff.1 h).2
theorem indexByte_step (x c:UInt8) (r:List UInt8):Lib.indexByte (x :: r) c = if x = c then 0 else if Lib.indexByte r c = -1 then -1 else Lib.indexByte r c + 1:=by
 conv=>lhs; unfold Lib.indexByte
 by_cases h:x = c
 ·simp [h]
 ·have:(x == c) = false:=by simp [h]
  rw [this,if_neg (by simp),if_neg h]
  by_cases h2:Lib.indexByte r c = -1
  ·simp [h2]
  ·rw [if_neg (by simpa using h2),if_neg h2]
set_option maxHeartbeats 1000000 in
theorem rnumber_any (A:ByteArray) (c:UInt8) (w:World) (hA:A.size ≤ 9223372036854775807) :
  Calls Tryz.prog 147 #[.string A,.int .u8 (c.toNat:Int)] w fun e w'=>e = .returned (.int .i64 (Lib.indexByte A.data.toList c))∧w = w':=by
 have hsz:=size_list A
 have HS:=hid hsz
 clear hsz
 go_enter Tryz.func147,Tryz.ntmps147
 go_wp2_with fail
 go_loop [5] (fun i=>∃ k:Nat,k ≤ A.size∧i = .int .i64 k∧Lib.indexByte A.data.toList c = if Lib.indexByte (A.data.toList.drop k) c = -1 then -1 else Lib.indexByte (A.data.toList.drop k) c + k) (fun i=>A.size - (intOf i).toNat)
 case atStart=>
  refine ⟨0,by omega,rfl,?_⟩
  rw [List.drop_zero]
  by_cases h:Lib.indexByte A.data.toList c = -1
  ·rw [if_pos h,h]
  ·rw [if_neg h]; simp
 case round=>
  obtain ⟨k,hk,rfl,hrun⟩:=hrel
  have HR:=hid hrun
  clear hrun
  by_cases hlt:k < A.size
  ·obtain ⟨x,hx⟩:∃ x,A.data.toList[k]? = some x:=⟨_,List.getElem?_eq_getElem (by rw [size_list]; exact hlt)⟩
   have xk:=fun w=>run_idx (P:=Tryz.prog) Tryz.underlying9 A k x hx (k:Int) rfl .i64 w
   have hst:=indexByte_step x c (A.data.toList.drop (k + 1))
   rw [← drop_cons hx] at hst
   have HST:=hid hst
   have hxc:=UInt8.toNat_lt x
   clear hx hst
   by_cases he:x = c
   ·subst he
    have hf:Lib.indexByte A.data.toList x = k:=by rw [HR.out,HST.out,if_pos rfl,if_neg (by omega)]; omega
    have HF:=hid hf
    clear hf
    go_wp2_with fail
    go_ret
    exact ⟨ret_int HF.out.symm,rfl⟩
   ·have hne:((x.toNat:Int) == (c.toNat:Int)) = false:=by
     rw [beq_eq_false_iff_ne]; intro e; exact he (UInt8.toNat_inj.1 (by omega))
    have hf:Lib.indexByte A.data.toList c = if Lib.indexByte (A.data.toList.drop (k + 1)) c = -1 then -1 else Lib.indexByte (A.data.toList.drop (k + 1)) c + ((k + 1:Nat):Int):=by
     have hge:=Lib.indexByte_ge (A.data.toList.drop (k + 1)) c
     rw [HR.out,HST.out,if_neg he]
     by_cases h2:Lib.indexByte (A.data.toList.drop (k + 1)) c = -1
     ·rw [if_pos h2,if_pos rfl,if_pos h2]
     ·rw [if_neg h2,if_neg (by omega),if_neg h2]; omega
    have HF:=hid hf
    clear hf he
    go_wp2_with fail
    go_round
    case rel=>exact ⟨k + 1,by omega,by go_num,HF.out⟩
    case measure=>simp [intOf]; omega
  ·have hf:Lib.indexByte A.data.toList c = -1:=by
    rw [HR.out,List.drop_eq_nil_of_le (by rw [HS.out]; omega)]; rfl
   have HF:=hid hf
   clear hf
   go_wp2_with fail
   go_ret
   exact ⟨ret_int HF.out.symm,rfl⟩
theorem num64_any (c:UInt8) (w:World):Calls Tryz.prog 147 #[.string ⟨#[65,66,67,68,69,70,71,72,73,74,75,76,77,78,79,80,81,82,83,84,85,86,87,88,89,90,97,98,99,100,101,102,103,104,105,106,107,108,109,110,111,112,113,114,115,116,117,118,119,120,121,122,48,49,50,51,52,53,54,55,56,57,43,47]⟩,.int .u8 (c.toNat:Int)] w fun e w'=>e = .returned (.int .i64 (idx64 c))∧w = w':=
 rnumber_any ⟨#[65,66,67,68,69,70,71,72,73,74,75,76,77,78,79,80,81,82,83,84,85,86,87,88,89,90,97,98,99,100,101,102,103,104,105,106,107,108,109,110,111,112,113,114,115,116,117,118,119,120,121,122,48,49,50,51,52,53,54,55,56,57,43,47]⟩ c w (by decide)
theorem faultInfo:(Tryz.prog.info? 38).map (·.size) = some 2:=by kernel_rfl
theorem faultPlain_any (c:Int) (hc:c ≠ 0) (w:World) :
  Calls Tryz.prog 28 #[.int .i64 c] w fun e w'=>e = .returned (.agg #[.int .i64 c,.int .i64 (-1)])∧Below w.heap.size w w':=by
 have h1:(c == 0) = false:=by simpa using hc
 clear hc
 go_enter Tryz.func28,Tryz.ntmps28
 go_wp2_with fail
 refine bodyPost_ret (v:=.agg #[.int .i64 c,.int .i64 (-1)]) ?_ rfl ⟨rfl,(Below.refl _ _).alloc (Nat.le_refl _) _⟩
 exact results_cell_row rfl _ _ w.heap.size 38 _ (0,0) _ rfl (heap_alloc_new w _) Tryz.underlying38 rfl faultInfo
theorem faultPlaced_any (c z:Int) (w:World) :
  Calls Tryz.prog 85 #[.int .i64 c,.int .i64 z] w fun e w'=>e = .returned (.agg #[.int .i64 c,.int .i64 z])∧Below w.heap.size w w':=by
 go_enter Tryz.func85,Tryz.ntmps85
 go_wp2_with fail
 refine bodyPost_ret (v:=.agg #[.int .i64 c,.int .i64 z]) ?_ rfl ⟨rfl,(Below.refl _ _).alloc (Nat.le_refl _) _⟩
 exact results_cell_row rfl _ _ w.heap.size 38 _ (0,0) _ rfl (heap_alloc_new w _) Tryz.underlying38 rfl faultInfo
theorem results_tmp_row {P:Program} {fn:Func} {u p:Tmp} {ty:TypeId} (h:fn.results = #[.tmp u,.cell p ty]) (tmps:Array Value) (w:World) (g:Nat) (t:TypeId) (cs:Array Value) (fr:Nat × Nat) (d:TypeDesc)
  (hp:tmps.getD p undef = .pointer (some ⟨g,0,none⟩)) (hg:w.heap[g]? = some (.cells cs t fr))
  (hu:P.underlying ty = some d) (hd:(match d with | .struct _ | .array _ _=>true | _=>false) = true) (hi:(P.info? ty).map (·.size) = some cs.size) :
  (results fn tmps).run P w = .ok (.tuple #[tmps.getD u undef,.agg cs]) w:=by
 have hp':tmps[p]?.getD undef = .pointer (some ⟨g,0,none⟩):=by simpa using hp
 simp [results,h,hp',asAddr,run_loadVar_row w g t ty cs fr d hg hu hd hi,Result.andThen]
def fz (c:Nat) (p:Option Int):Int:=if c = 0 then 0 else p.getD (-1)
def faultRow (w:World) (g:Nat) (c z:Int):Prop:=w.heap[g]? = some (.cells #[.int .i64 c,.int .i64 z] 38 (0,0))
theorem fault_set {w:World} {g:Nat} {a b:Int} (h:faultRow w g a b) (c z:Int):faultRow ((w.setCell ⟨g,0,none⟩ (.int .i64 c)).setCell ⟨g,1,none⟩ (.int .i64 z)) g c z:=by
 have h1:=heap_setCell_same w g 0 _ _ (.int .i64 c) h
 exact heap_setCell_same _ g 1 _ _ (.int .i64 z) h1
theorem ret_told {fn:Func} {u p:Tmp} (hf:fn.results = #[.tmp u,.cell p 38]) {Q:Ending→World→Prop} {a:Act} {w:World} (g:Nat) (c z:Int) (v:Value)
  (hg:faultRow w g c z) (hd:a.defers = []) (hp:a.tmps.getD p undef = .pointer (some ⟨g,0,none⟩)) (hv:a.tmps.getD u undef = v) (hQ:Q (.returned (.tuple #[v,.agg #[.int .i64 c,.int .i64 z]])) w):bodyPost Tryz.prog fn Q .ret a w:=by
 refine bodyPost_ret (v:=.tuple #[v,.agg #[.int .i64 c,.int .i64 z]]) ?_ hd hQ
 rw [← hv]
 exact results_tmp_row hf _ _ g 38 _ (0,0) _ hp hg Tryz.underlying38 rfl faultInfo
def fW (w:World):World:=w.alloc (.cells #[.int .i64 0,.int .i64 0] 38)
theorem fW_row (w:World):faultRow (fW w) w.heap.size 0 0:=heap_alloc_new w _
theorem fW_size (w:World):(fW w).heap.size = w.heap.size + 1:=by simp [fW]
theorem fW_below {w w':World} (h:Below (fW w).heap.size (fW w) w'):Below w.heap.size w w':=
 below_trans ((Below.refl _ _).alloc (Nat.le_refl _) _) h
theorem faultRow.below {w w':World} {g:Nat} {a b:Int} (h:faultRow w g a b) (hb:Below w.heap.size w w'):faultRow w' g a b:=below_heap hb h
theorem faultRow.cells {w:World} {g:Nat} {a b:Int} (h:faultRow w g a b):w.cell? ⟨g,0,none⟩ = some (.int .i64 a)∧w.cell? ⟨g,1,none⟩ = some (.int .i64 b)∧w.frozen? ⟨g,0,none⟩ = false∧w.frozen? ⟨g,1,none⟩ = false:=
 ⟨by rw [cell_of_row _ _ 0 _ _ _ h]; rfl,by rw [cell_of_row _ _ 1 _ _ _ h]; rfl,frozen_row h 0,frozen_row h 1⟩
theorem end_below {w w1:World} (h:Below w.heap.size w w1) (c z:Int):Below w.heap.size w ((w1.setCell ⟨w.heap.size,0,none⟩ (.int .i64 c)).setCell ⟨w.heap.size,1,none⟩ (.int .i64 z)):=
 (h.setCell (p:=⟨w.heap.size,0,none⟩) (Nat.le_refl _) _).setCell (p:=⟨w.heap.size,1,none⟩) (Nat.le_refl _) _
def told2 (x:List UInt8 × Nat × Option Int):Value:=.tuple #[.string ⟨x.1.toArray⟩,.agg #[.int .i64 (x.2.1:Int),.int .i64 (fz x.2.1 x.2.2)]]
end Go.Proofs.YticlgcfodlcpcaaGreatDoor
