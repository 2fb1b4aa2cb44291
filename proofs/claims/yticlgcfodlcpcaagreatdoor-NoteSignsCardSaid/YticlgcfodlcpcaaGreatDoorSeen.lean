/- Plain laws on texts of whole runes: what stands behind a text of whole runes; a bad byte within. -/
import Derived.Test.YticlgcfodlcpcaaGreatDoorName2
import Derived.Lib.SpaceUEq
import Derived.Lib.MapLaws
import Derived.Lib.ValidLaws
namespace Go.Proofs.YticlgcfodlcpcaaGreatDoor
open Go.RowKit
theorem controlB_bad (r:Int) (h:badName r = false):controlB r = false:=by
 unfold badName at h
 simp only [Bool.or_eq_false_iff] at h
 exact h.1.1
theorem goodD_mono (p q:Int→Bool) (hpq:∀ r,p r = false→q r = false):∀ (n:Nat) (l:List UInt8),goodD p n l = true→goodD q n l = true
 | 0,_,_=>rfl
 | n + 1,l,h=>by
  unfold goodD at h ⊢
  split
  ·rfl
  ·rename_i hne
   rw [if_neg hne] at h
   split
   ·rename_i hv; rw [if_pos hv] at h; exact h
   ·rename_i hv
    rw [if_neg hv] at h
    by_cases hp:p (Lib.decodeL l).1 = true
    ·rw [if_pos hp] at h; cases h
    ·rw [if_neg hp] at h
     rw [if_neg (by rw [hpq _ (by simpa using hp)]; simp)]
     exact goodD_mono p q hpq n _ h
theorem drop_lt (l:List UInt8) (hne:l ≠ []) (n:Nat) (h:l.length ≤ n + 1):(l.drop (Lib.decodeL l).2).length ≤ n:=by
 have hw:=Lib.decodeL_width l
 have:=List.length_pos_iff.2 hne
 rw [List.length_drop]; omega
theorem goodD_fuel (bad:Int→Bool):∀ (n m:Nat) (l:List UInt8),l.length ≤ n→l.length ≤ m→goodD bad n l = goodD bad m l
 | 0,m,l,h,_=>by
  obtain rfl:l = []:=List.eq_nil_of_length_eq_zero (by omega)
  rw [goodD_end,goodD_end]
 | n + 1,0,l,_,h=>by
  obtain rfl:l = []:=List.eq_nil_of_length_eq_zero (by omega)
  rw [goodD_end,goodD_end]
 | n + 1,m + 1,l,h,k=>by
  unfold goodD
  by_cases hne:l = []
  ·rw [if_pos hne,if_pos hne]
  ·rw [if_neg hne,if_neg hne,goodD_fuel bad n m _ (drop_lt l hne n h) (drop_lt l hne m k)]
theorem decodeN_app (n n' b0 b1 b2 b3 c1 c2 c3:Nat) (hnn:n ≤ n') (hw:¬ ((Lib.decodeN n b0 b1 b2 b3).1 = 65533∧(Lib.decodeN n b0 b1 b2 b3).2 = 1))
  (e1:1 < n→c1 = b1) (e2:2 < n→c2 = b2) (e3:3 < n→c3 = b3):Lib.decodeN n' b0 c1 c2 c3 = Lib.decodeN n b0 b1 b2 b3:=by
 by_cases h0:b0 < 128
 ·rw [Lib.decodeN_ascii _ _ _ _ _ h0,Lib.decodeN_ascii _ _ _ _ _ h0]
 ·have hc:=Lib.decodeN_conts n b0 b1 b2 b3
  have hge:=Lib.decodeN_ge1 n b0 b1 b2 b3
  unfold Lib.decodeN at hw hc hge ⊢
  rw [if_neg h0] at hw hc hge
  rw [if_neg h0,if_neg h0]
  by_cases g2:b0 / 32 = 6∧(1 < n∧b1 / 64 = 2)
  ·obtain rfl:=e1 g2.2.1
   rw [if_pos g2,if_pos ⟨g2.1,by omega,g2.2.2⟩]
  ·rw [if_neg g2] at hw hc hge
   rw [if_neg g2]
   by_cases g3:b0 / 16 = 14∧(1 < n∧b1 / 64 = 2)∧(2 < n∧b2 / 64 = 2)
   ·obtain rfl:=e1 g3.2.1.1
    obtain rfl:=e2 g3.2.2.1
    rw [if_pos g3,if_neg (by omega),if_pos ⟨g3.1,⟨by omega,g3.2.1.2⟩,by omega,g3.2.2.2⟩]
   ·rw [if_neg g3] at hw hc hge
    rw [if_neg g3]
    by_cases g4:b0 / 8 = 30∧(1 < n∧b1 / 64 = 2)∧(2 < n∧b2 / 64 = 2)∧(3 < n∧b3 / 64 = 2)
    ·obtain rfl:=e1 g4.2.1.1
     obtain rfl:=e2 g4.2.2.1.1
     obtain rfl:=e3 g4.2.2.2.1
     rw [if_pos g4,if_neg (by omega),if_neg (by omega),if_pos ⟨g4.1,⟨by omega,g4.2.1.2⟩,⟨by omega,g4.2.2.1.2⟩,by omega,g4.2.2.2.2⟩]
    ·rw [if_neg g4] at hw
     exact absurd ⟨rfl,rfl⟩ hw
theorem getD_app (l m:List UInt8) (i:Nat) (h:i < l.length):(l ++ m).getD i 0 = l.getD i 0:=by
 simp [List.getD,List.getElem?_append_left h]
theorem decodeL_app (l m:List UInt8) (hne:l ≠ []) (hw:¬ ((Lib.decodeL l).1 = 65533∧(Lib.decodeL l).2 = 1)):Lib.decodeL (l ++ m) = Lib.decodeL l:=by
 rw [Lib.decodeL_N] at hw
 rw [Lib.decodeL_N,Lib.decodeL_N,getD_app l m 0 (List.length_pos_iff.2 hne)]
 exact decodeN_app _ _ _ _ _ _ _ _ _ (by simp) hw (fun h=>by rw [getD_app l m 1 h]) (fun h=>by rw [getD_app l m 2 h]) (fun h=>by rw [getD_app l m 3 h])
theorem goodD_app (bad:Int→Bool):∀ (n:Nat) (l m:List UInt8) (k:Nat),goodD bad n l = true→l.length ≤ n→(l ++ m).length ≤ k→goodD bad k (l ++ m) = goodD bad m.length m
 | 0,l,m,k,_,hn,hk=>by
  obtain rfl:l = []:=List.eq_nil_of_length_eq_zero (by omega)
  exact goodD_fuel bad _ _ _ (by simpa using hk) (Nat.le_refl _)
 | n + 1,l,m,k,h,hn,hk=>by
  by_cases hne:l = []
  ·subst hne
   exact goodD_fuel bad _ _ _ (by simpa using hk) (Nat.le_refl _)
  ·have hpos:=List.length_pos_iff.2 hne
   obtain ⟨k,rfl⟩:∃ j,k = j + 1:=⟨k - 1,by simp only [List.length_append] at hk; omega⟩
   unfold goodD at h
   rw [if_neg hne] at h
   by_cases hv:(Lib.decodeL l).1 = 65533∧(Lib.decodeL l).2 = 1
   ·rw [if_pos hv] at h; cases h
   ·rw [if_neg hv] at h
    by_cases hb:bad (Lib.decodeL l).1 = true
    ·rw [if_pos hb] at h; cases h
    ·rw [if_neg hb] at h
     have hle:=Lib.decodeL_le l hne
     conv=>lhs; unfold goodD
     rw [if_neg (by simp [hne]),decodeL_app l m hne hv,if_neg hv,if_neg hb,List.drop_append_of_le_length hle]
     have hd:=drop_lt l hne n hn
     refine goodD_app bad n _ m k h hd ?_
     have hw:=Lib.decodeL_width l
     simp only [List.length_append,List.length_drop] at hk ⊢
     omega
theorem goodD_mid (bad:Int→Bool) (c:UInt8) (hc:c.toNat / 64 ≠ 2) (hbad:∀ m,(Lib.decodeL (c :: m)).1 = 65533∧(Lib.decodeL (c :: m)).2 = 1 ∨ bad (Lib.decodeL (c :: m)).1 = true) :
  ∀ (n:Nat) (l m:List UInt8),(l ++ c :: m).length ≤ n→goodD bad n (l ++ c :: m) = false
 | 0,l,m,h=>by simp at h
 | n + 1,l,m,h=>by
  unfold goodD
  rw [if_neg (by simp)]
  by_cases hne:l = []
  ·subst hne
   rcases hbad m with hb | hb
   ·rw [List.nil_append,if_pos hb]
   ·rw [List.nil_append]
    split
    ·rfl
    ·first | rfl | rw [if_pos hb]
  ·have hpos:=List.length_pos_iff.2 hne
   by_cases hv:(Lib.decodeL (l ++ c :: m)).1 = 65533∧(Lib.decodeL (l ++ c :: m)).2 = 1
   ·rw [if_pos hv]
   ·rw [if_neg hv]
    split
    ·rfl
    ·have hw:(Lib.decodeL (l ++ c :: m)).2 ≤ l.length:=by
      have hcs:=Lib.decodeN_conts (l ++ c :: m).length ((l ++ c :: m).getD 0 0).toNat ((l ++ c :: m).getD 1 0).toNat ((l ++ c :: m).getD 2 0).toNat ((l ++ c :: m).getD 3 0).toNat
      rw [← Lib.decodeL_N] at hcs
      have hat:((l ++ c :: m).getD l.length 0).toNat / 64 ≠ 2:=by
       simp [List.getD,hc]
      apply Decidable.byContradiction
      intro hgt
      rcases (show l.length = 1 ∨ l.length = 2 ∨ l.length = 3 ∨ 4 ≤ l.length by omega) with e | e | e | e
      ·rw [e] at hat; exact hat (hcs.1 (by omega)).1
      ·rw [e] at hat; exact hat (hcs.2.1 (by omega)).1
      ·rw [e] at hat; exact hat (hcs.2.2.1 (by omega)).1
      ·have:=hcs.2.2.2; omega
     rw [List.drop_append_of_le_length hw]
     refine goodD_mid bad c hc hbad n _ m ?_
     have hw1:=Lib.decodeL_width (l ++ c :: m)
     simp only [List.length_append,List.length_drop,List.length_cons] at h ⊢
     omega
theorem mid_ascii (bad:Int→Bool) (c:UInt8) (h:c.toNat < 128) (hb:bad (c.toNat:Int) = true) (l m:List UInt8):goodD bad (l ++ c :: m).length (l ++ c :: m) = false:=
 goodD_mid bad c (by omega) (fun m=>.inr (by rw [Lib.decodeL_ascii c m h]; exact hb)) _ l m (Nat.le_refl _)
theorem name_len {l:List UInt8} (h:nameOf l = true):l.length ≤ 64∧1 ≤ l.length∧goodD badName l.length l = true:=by
 unfold nameOf at h
 simp only [Bool.and_eq_true,decide_eq_true_eq] at h
 exact ⟨h.1.2,h.1.1,h.2⟩
theorem name_mid {c:UInt8} (h:c.toNat < 128) (hb:badName (c.toNat:Int) = true) (l m:List UInt8):nameOf (l ++ c :: m) = false:=by
 unfold nameOf
 rw [mid_ascii badName c h hb l m,Bool.and_false]
end Go.Proofs.YticlgcfodlcpcaaGreatDoor
