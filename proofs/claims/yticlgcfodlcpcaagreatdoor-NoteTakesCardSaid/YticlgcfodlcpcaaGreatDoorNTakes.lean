/-
  What may be signed, letter by letter: in plain Lean. The law NoteTakes, walked.
-/
import Derived.Test.YticlgcfodlcpcaaGreatDoorNAlive
namespace Go.Proofs.YticlgcfodlcpcaaGreatDoor
open Go.RowKit

/-- A byte that is no control. -/
def clearB (c : UInt8) : Bool := (decide (32 ≤ c.toNat) || decide (c.toNat = 10)) && decide (c.toNat ≠ 127)
def lowB (c : UInt8) : Bool := decide (c.toNat < 127)
def mayLen (s : List UInt8) : Bool := decide (1 ≤ s.length) && decide (s.length ≤ 524288) && decide (s.getLast? = some 10)
theorem clear_bad (c : UInt8) (h : clearB c = false) : c.toNat < 128 ∧ badTxt (c.toNat : Int) = true := by
  have hc : (c.toNat < 32 ∧ c.toNat ≠ 10) ∨ c.toNat = 127 := by
    unfold clearB at h
    simp only [Bool.and_eq_false_iff, Bool.or_eq_false_iff, decide_eq_false_iff_not] at h
    omega
  refine ⟨by omega, ?_⟩
  unfold badTxt controlB
  simp only [Bool.and_eq_true, decide_eq_true_eq, Bool.or_eq_true]
  omega
theorem good_clear (l : List UInt8) (h : goodD badTxt l.length l = true) : l.all clearB = true := by
  rw [List.all_eq_true]
  intro c hc
  cases e : clearB c with
  | true => rfl
  | false =>
    obtain ⟨h1, h2⟩ := clear_bad c e
    obtain ⟨a, b, rfl⟩ := List.append_of_mem hc
    rw [mid_ascii badTxt c h1 h2 a b] at h
    cases h
theorem takes_yes (s : List UInt8) (h : mayTxt s = true) : mayLen s = true ∧ s.all clearB = true := by
  unfold mayTxt at h
  simp only [Bool.and_eq_true, decide_eq_true_eq, Option.isNone_iff_eq_none] at h
  obtain ⟨⟨⟨h1, h2⟩, h3⟩, h4⟩ := h
  have h0 := List.length_pos_iff.2 h1
  refine ⟨?_, good_clear s ((oddAt_good _ _ _).1 h3)⟩
  unfold mayLen
  rw [decide_eq_true (show 1 ≤ s.length by omega), decide_eq_true h2, decide_eq_true h4]
  rfl
theorem takes_no (s : List UInt8) (h : mayTxt s = false) (h1 : mayLen s = true) (h2 : s.all clearB = true) (h3 : s.all lowB = true) : False := by
  have hg : goodD badTxt s.length s = true := goodT_ascii s s.length fun c hc => by
    have e1 := List.all_eq_true.1 h2 c hc
    have e2 := List.all_eq_true.1 h3 c hc
    unfold clearB at e1
    unfold lowB at e2
    simp only [Bool.and_eq_true, Bool.or_eq_true, decide_eq_true_eq] at e1 e2
    rcases e1.1 with h | h
    · exact .inr ⟨h, e2⟩
    · exact .inl (UInt8.toNat_inj.1 h)
  unfold mayLen at h1
  simp only [Bool.and_eq_true, decide_eq_true_eq] at h1
  have h4 : mayTxt s = true := by
    unfold mayTxt
    rw [decide_eq_true h1.1.2, decide_eq_true h1.2, (oddAt_good _ _ _).2 hg, decide_eq_true (List.length_pos_iff.1 (by omega))]
    rfl
  rw [h] at h4
  cases h4
theorem sg_code0 (s : List UInt8) (name : List UInt8) (hno : (splitN s).2.1 ≠ 0) : sgCode 0 0 s name = if nameOf name = true ∧ mayTxt s = true then 0 else 2 := by
  unfold sgCode
  cases hn : nameOf name with
  | false => simp
  | true =>
    cases hm : mayTxt s with
    | false =>
      have e : splitL s = none := by unfold splitL; rw [if_neg hno, hm]; simp
      rw [e]
      simp
    | true =>
      rw [splitL_text hm hno]
      simp
theorem sg_out1 (sec s name : List UInt8) (hno : (splitN s).2.1 ≠ 0) (hm : mayTxt s = true) : sgOut sec 0 0 s name = noteL s [sgLine sec 0 0 s name] := by
  unfold sgOut
  rw [splitL_text hm hno]
  simp [noteL]
theorem note_one (s : List UInt8) (x : List UInt8 × List UInt8) (N : List UInt8) (hN : noteL s [x] = N) : s.length + 3 + x.1.length < N.length ∧ N.take s.length = s ∧ N[s.length]? = some 10 ∧ N[N.length - 1]? = some 10 := by
  subst hN
  unfold noteL
  have hl := line_length x
  simp only [List.flatMap_cons, List.flatMap_nil, List.append_nil]
  refine ⟨?_, ?_, ?_, ?_⟩
  · rw [List.length_append, List.length_cons]
    omega
  · rw [List.take_append_of_le_length (Nat.le_refl _), List.take_of_length_le (Nat.le_refl _)]
  · rw [List.getElem?_append_right (Nat.le_refl _), Nat.sub_self]
    rfl
  · have e : s ++ 10 :: lineL x = (s ++ 10 :: (dashL ++ (x.1 ++ 32 :: b64 x.2))) ++ [10] := by simp [lineL]
    rw [e, List.length_append, List.length_singleton, Nat.add_sub_cancel, List.getElem?_append_right (Nat.le_refl _), Nat.sub_self]
    rfl
theorem all_take {p : UInt8 → Bool} {s : List UInt8} {i : Nat} {b : UInt8} (h : s[i]? = some b) : (s.take (i + 1)).all p = ((s.take i).all p && p b) := by
  rw [List.take_add_one, h, List.all_append]
  simp
theorem ErrAt.some4 {S : Nat → Addr} {w : World} {v : Value} {c : Nat} {p : Option Int} (h : ErrAt S w v c p) (hc : c ≠ 0) : ∃ T x, v = .iface T x ∧ (∀ W, (binOp .neq 34 (.iface T x) .nilIface).run Tryz.prog W = .ok (.bool true) W) ∧ (∀ W, (binOp .eql 34 (.iface T x) .nilIface).run Tryz.prog W = .ok (.bool false) W) := by
  rcases h with ⟨_, h, _⟩ | ⟨_, _, h, _⟩ | ⟨_, _, b, y, h, _⟩
  · exact absurd h hc
  · exact ⟨_, _, h, fun W => run_err_neq (S c) W, fun W => run_err_eq (S c) W⟩
  · exact ⟨_, _, h, fun W => fault_ne_nil b W, fun W => fault_eq_nil b W⟩
end Go.Proofs.YticlgcfodlcpcaaGreatDoor

namespace Go.Proofs.YticlgcfodlcpcaaGreatDoor
open Go.RowKit

def TkR (p : UInt8 → Bool) (s : List UInt8) (w5 : World) (cv iv : Value) (wr : World) : Prop :=
  ∃ i : Nat, iv = .int .i64 (i : Int) ∧ i ≤ s.length ∧ cv = .bool ((s.take i).all p) ∧ w5 = wr
set_option maxHeartbeats 16000000 in
set_option maxRecDepth 100000 in
theorem takes_any (S : Nat → Addr) (s name : List UInt8) (hs : s.length ≤ 140737488351232) (hm : name.length ≤ 140737488351232) (w : World) (hF : FW S w) :
    Calls Tryz.prog 5 #[.string ⟨s.toArray⟩, .string ⟨name.toArray⟩] w fun e w' => e = .returned (.bool true) ∧ Below w.heap.size w w' := by
  have HF := Lib.hid fun (W : World) (hW : Below w.heap.size w W) => hF.below hW
  have HLA := Lib.hid (fun (W W' : World) (hW : Below w.heap.size w W) (hW' : Below W.heap.size W W') => hW.trans (hW'.mono hW.size))
  have HTX := Lib.hid (text_any S s (by omega) w hF.base)
  have HAL := Lib.hid fun (W : World) (hW : Below w.heap.size w W) => alive_any S W (hF.below hW)
  have HNA := Lib.hid fun (W : World) (hW : Below w.heap.size w W) => name_any S ⟨name.toArray⟩ W (by show name.toArray.size ≤ _; simp; omega) (hF.below hW).base
  rw [show (⟨name.toArray⟩ : ByteArray).data.toList = name from rfl] at HNA
  have HK := Lib.hid fun (W : World) (hW : Below w.heap.size w W) => keyNew_any S (3 :: List.replicate 31 0) 0 rfl (by decide) W (hF.below hW)
  obtain ⟨sec, hsec⟩ : ∃ s, (3 : UInt8) :: List.replicate 31 0 = s := ⟨_, rfl⟩
  have hb3 := built_hash3
  rw [hsec] at HK hb3
  have HB3 := Lib.hid hb3
  have HS := Lib.hid hs
  have HM := Lib.hid hm
  obtain ⟨A, hA⟩ : ∃ A, splitN s = A := ⟨_, rfl⟩
  rw [hA] at HTX
  obtain ⟨⟨t, L⟩, c, p⟩ := A
  by_cases hc : c = 0
  · subst hc
    clear hF hA hb3 hsec hs hm
    go_enter Tryz.func5, Tryz.ntmps5
    go_wp2_with (first | (go_at_call 16; refine HTX.out.mono ?_; rintro e w1 ⟨ev1, rfl, he1, hb1⟩; obtain rfl := ErrAt.zero2 he1 rfl; have HB1 := Lib.hid hb1; clear he1 hb1) | (go_at_call 7; refine (HAL.out _ HB1.out).mono ?_; rintro e w2 ⟨rfl, hb2⟩))
    go_ret
    exact ⟨rfl, HLA.out _ _ HB1.out hb2⟩
  · have hno : (splitN s).2.1 ≠ 0 := by rw [hA]; exact hc
    have HC := Lib.hid (sg_code0 s name hno)
    have HO := Lib.hid (fun h : mayTxt s = true => sg_out1 sec s name hno h)
    have HSG := Lib.hid (fun (kb : Nat) (W : World) (hW : Below w.heap.size w W) (hkb : w.heap.size ≤ kb) (hk : KeyF W kb sec 0 0) => nsign_any S kb sec 0 0 (by decide) s name (by omega) (by omega) w W hF hW hkb hk)
    have HLE := Lib.hid (fun (kb n : Nat) (hn : n ≤ 1) (W : World) (hk : KeyF W kb sec 0 n) => keyLeft_any kb sec 0 n hn W hk)
    have HI2 := Lib.hid fun (W : World) (v : Value) (hW : Below w.heap.size w W) (h : ErrAt S W v 2 none) => (by
      have h2 := is_any S W v 2 none 2 (hF.below hW).base h
      rwa [show isB 2 none 2 = true by decide] at h2 : Calls Tryz.prog 11 #[v, .int .i64 2] W fun e w' => e = .returned (.bool true) ∧ Below W.heap.size W w')
    have HIX := Lib.hid (fun (i : Nat) (b : UInt8) (h : s[i]? = some b) (W : World) => run_idx Tryz.underlying9 ⟨s.toArray⟩ i b h (i : Int) rfl .i64 W)
    have HY := Lib.hid (takes_yes s)
    have HNO := Lib.hid (takes_no s)
    have HSL := Lib.hid (show ((splitN s).2.1 ≠ 0) from hno)
    obtain ⟨M, hM⟩ : ∃ M, mayLen s = M := ⟨_, rfl⟩
    rw [hM] at HY HNO
    clear hF hA hb3 hsec hno
    have key : 1 ≤ s.length ∧ s.length ≤ 524288 → ∃ b, s[s.length - 1]? = some b ∧ M = decide (b.toNat = 10) := fun h => by
      obtain ⟨b, hb⟩ : ∃ b, s[s.length - 1]? = some b := ⟨_, List.getElem?_eq_getElem (by omega)⟩
      refine ⟨b, hb, ?_⟩
      rw [← hM]
      unfold mayLen
      rw [decide_eq_true h.1, decide_eq_true h.2, List.getLast?_eq_getElem?, hb]
      simp only [Bool.true_and, Option.some.injEq]
      exact decide_eq_decide.2 (by rw [← UInt8.toNat_inj]; rfl)
    have KEY := Lib.hid key
    have HMN := Lib.hid (fun h : ¬ (1 ≤ s.length ∧ s.length ≤ 524288) => (show M = false by
      rw [← hM]
      unfold mayLen
      rw [Bool.and_eq_false_iff, Bool.and_eq_false_iff]
      rcases Nat.lt_or_ge s.length 1 with h1 | h1
      · exact .inl (.inl (decide_eq_false (by omega)))
      · exact .inl (.inr (decide_eq_false (by omega)))))
    clear hM key
    go_enter Tryz.func5, Tryz.ntmps5
    go_upto_region 4 with (go_at_call 16; refine HTX.out.mono ?_; rintro e w1 ⟨ev1, rfl, he1, hb1⟩; obtain ⟨TT, xx, rfl, _, hne⟩ := ErrAt.some4 he1 hc; have HB1 := Lib.hid hb1; clear he1 hb1)
    clear hne hc HTX
    go_upto_region 7 with (first | (refine wpList_buildH1 (by rfl) (.const (.int .u8 3)) (by rfl) 3 sec (by rfl) HB3.out ?_) | (go_at_call 8; refine (HK.out _ HB1.out).mono ?_; rintro e w4 ⟨kb, lv, rfl, hkb, hk, hb4⟩))
    have HB4 := Lib.hid (HLA.out _ _ HB1.out hb4)
    have HKB := Lib.hid (Nat.le_trans HB1.out.size hkb)
    have HKF := Lib.hid (show KeyF w4 kb sec 0 0 from ⟨by decide, lv, hk⟩)
    clear hkb hk hb4 HK HB3
    have HLE0 := Lib.hid (fun (kb : Nat) (W : World) (hk : KeyF W kb sec 0 0) => (HLE.out kb 0 (by decide) W hk : Calls Tryz.prog 14 #[.pointer (some ⟨kb, 0, none⟩)] W fun e w' => e = .returned (.int .i64 1) ∧ Below W.heap.size W w'))
    have HLE1 := Lib.hid (fun (kb : Nat) (W : World) (hk : KeyF W kb sec 0 1) => (HLE.out kb 1 (by decide) W hk : Calls Tryz.prog 14 #[.pointer (some ⟨kb, 0, none⟩)] W fun e w' => e = .returned (.int .i64 0) ∧ Below W.heap.size W w'))
    clear HLE
    have s0 : (0 : Int) ≤ (s.length : Int) := by omega
    have s1 : (s.length : Int) ≤ 140737488351232 := by have := HS.out; omega
    by_cases hle : 1 ≤ s.length
    · have l1 : (1 : Int) ≤ (s.length : Int) := by omega
      by_cases hbig : s.length ≤ 524288
      · have l2 : (s.length : Int) ≤ 524288 := by omega
        obtain ⟨b, hb, hMb⟩ := KEY.out ⟨hle, hbig⟩
        have hil : ∀ W : World, (Instr.index 9 (.string ⟨s.toArray⟩) (.int .i64 ((s.length : Int) - 1))).run Tryz.prog W = .ok (.int .u8 (b.toNat : Int)) W := fun W => run_idx Tryz.underlying9 ⟨s.toArray⟩ (s.length - 1) b hb _ (by omega) .i64 W
        clear hb KEY HMN
        by_cases h10 : b.toNat = 10
        · have f10 : (b.toNat : Int) = 10 := by omega
          obtain rfl : M = true := by rw [hMb]; exact decide_eq_true h10
          clear hMb h10
          go_wp2_with fail
          go_loopw [10, 11] (fun cv iv wr => TkR clearB s w4 cv iv wr) (fun _ iv _ => s.length - (intOf iv).toNat)
          case atStart => exact ⟨0, rfl, Nat.zero_le _, rfl, rfl⟩
          case round =>
            obtain ⟨i, rfl, hi, rfl, rfl⟩ := hrel
            by_cases hlt : i < s.length
            · obtain ⟨b, hb⟩ : ∃ b, s[i]? = some b := ⟨_, List.getElem?_eq_getElem hlt⟩
              have hix := HIX.out i b hb
              have ht := all_take (p := clearB) hb
              have i1 : (i : Int) < (s.length : Int) := by omega
              obtain ⟨C, hC⟩ : ∃ C, (s.take i).all clearB = C := ⟨_, rfl⟩
              rw [hC] at ht ⊢
              clear hC
              cases C with
              | false =>
                go_wp2_with fail
                refine ⟨⟨i + 1, by go_num, hlt, by rw [ht]; rfl, rfl⟩, by simp [intOf]; omega⟩
              | true =>
                by_cases h32 : 32 ≤ b.toNat
                · have f1 : (32 : Int) ≤ (b.toNat : Int) := by omega
                  by_cases h127 : b.toNat = 127
                  · have f2 : (b.toNat : Int) = 127 := by omega
                    have hcl : clearB b = false := by unfold clearB; simp [h127]
                    go_wp2_with fail
                    refine ⟨⟨i + 1, by go_num, hlt, by rw [ht, hcl]; rfl, rfl⟩, by simp [intOf]; omega⟩
                  · have f2 : ¬ (b.toNat : Int) = 127 := by omega
                    have f2b : ((b.toNat : Int) == 127) = false := by rw [beq_eq_false_iff_ne]; exact f2
                    have hcl : clearB b = true := by unfold clearB; simp [h32, h127]
                    have f2c : ((b.toNat : Int) != 127) = true := by rw [bne, f2b]; rfl
                    go_wp2_with fail
                    refine ⟨⟨i + 1, by go_num, hlt, by rw [ht, hcl]; first | rfl | (rw [f2c]; rfl), rfl⟩, by simp [intOf]; omega⟩
                · have f1 : ¬ (32 : Int) ≤ (b.toNat : Int) := by omega
                  by_cases h10 : b.toNat = 10
                  · have f2 : (b.toNat : Int) = 10 := by omega
                    have hcl : clearB b = true := by unfold clearB; simp [h10]
                    go_wp2_with fail
                    refine ⟨⟨i + 1, by go_num, hlt, by rw [ht, hcl]; rfl, rfl⟩, by simp [intOf]; omega⟩
                  · have f2 : ¬ (b.toNat : Int) = 10 := by omega
                    have f2b : ((b.toNat : Int) == 10) = false := by rw [beq_eq_false_iff_ne]; exact f2
                    have hcl : clearB b = false := by unfold clearB; simp [h10]; omega
                    go_wp2_with fail
                    refine ⟨⟨i + 1, by go_num, hlt, by rw [ht, hcl]; rfl, rfl⟩, by simp [intOf]; omega⟩
            · obtain rfl : i = s.length := by omega
              have i1 : ¬ (s.length : Int) < (s.length : Int) := by omega
              rw [List.take_length]
              clear hi hlt
              by_cases hyes : nameOf name = true ∧ mayTxt s = true
              · have HC0 := Lib.hid (show sgCode 0 0 s name = 0 by rw [HC.out, if_pos hyes])
                have HO0 := HO.out hyes.2
                obtain ⟨N, hN⟩ : ∃ N, noteL s [sgLine sec 0 0 s name] = N := ⟨_, rfl⟩
                obtain ⟨n1, n2, n3, n4⟩ := note_one s _ N hN
                have hNl := noteL_len s [sgLine sec 0 0 s name] 4000 (fun x hx => by rw [List.mem_singleton.1 hx]; exact sg_len sec (by decide) s hyes.1)
                rw [hN] at HO0 hNl
                have n5 := may_len s hyes.2
                rw [List.length_singleton] at hNl
                have n1' : s.length + 3 + name.length < N.length := n1
                rw [(HY.out hyes.2).2]
                rw [hyes.1] at HNA
                have HSG0 := Lib.hid ((HSG.out kb _ HB4.out HKB.out HKF.out).mono (fun e w' (hh : SgPost S w _ kb sec 0 0 s name e w') => (by
                  obtain ⟨ev, rfl, h1, h2, _, h4⟩ := hh
                  rw [HC0.out] at h1 h2 ⊢
                  rw [HO0]
                  obtain rfl := ErrAt.zero2 h1 rfl
                  exact ⟨rfl, h2, h4⟩ : e = .returned (.tuple #[.string ⟨N.toArray⟩, .nilIface]) ∧ KeyF w' kb sec 0 1 ∧ Below w.heap.size w w')))
                have a1 : (name.length : Int) ≤ 140737488351232 := by have := HM.out; omega
                have a2 : (s.length : Int) + 3 + (name.length : Int) < (N.length : Int) := by omega
                have a3 : (N.length : Int) ≤ 1048576 := by omega
                have a4 : (1 : Int) ≤ (N.length : Int) := by omega
                have hsl : ∀ W : World, (Instr.slice 9 (.string ⟨N.toArray⟩) none (some (.int .i64 (s.length : Int))) none).run Tryz.prog W = .ok (.string ⟨s.toArray⟩) W := fun W => by
                  rw [run_slice_string_to_if W 9 ⟨N.toArray⟩ .i64 (s.length : Int) Tryz.underlying9, if_pos ⟨s0, by show (s.length : Int) ≤ (N.toArray.size : Int); rw [List.size_toArray]; omega⟩]
                  refine congrArg (fun x => Result.ok (Value.string x) W) (ByteArray.ext ?_)
                  rw [ByteArray.data_extract, Int.toNat_natCast]
                  simp
                  exact n2
                have hi1 : ∀ W : World, (Instr.index 9 (.string ⟨N.toArray⟩) (.int .i64 (s.length : Int))).run Tryz.prog W = .ok (.int .u8 10) W := fun W => run_idx Tryz.underlying9 ⟨N.toArray⟩ s.length 10 n3 _ rfl .i64 W
                have hi2 : ∀ W : World, (Instr.index 9 (.string ⟨N.toArray⟩) (.int .i64 ((N.length : Int) - 1))).run Tryz.prog W = .ok (.int .u8 10) W := fun W => run_idx Tryz.underlying9 ⟨N.toArray⟩ (N.length - 1) 10 n4 _ (by omega) .i64 W
                clear n1 n1' n2 n3 n4 n5 hN hNl HO0
                go_wp2_with (first | (go_at_call 10; refine HSG0.out.mono ?_; rintro e w6 ⟨rfl, hk6, hb6⟩; have HBX := Lib.hid hb6; have HKX := Lib.hid hk6; clear hk6 hb6) | (go_at_call 14; refine (HLE1.out _ _ HKX.out).mono ?_; rintro e w8 ⟨rfl, hb8⟩; have HBX := Lib.hid (HLA.out _ _ HBX.out hb8); clear hb8) | (go_at_call 17; refine (HNA.out _ HBX.out).mono ?_; rintro e w9 ⟨rfl, hb9⟩; have HKX := Lib.hid (HKX.out.below hb9); have HBX := Lib.hid (HLA.out _ _ HBX.out hb9); clear hb9) | (go_at_call 7; refine (HAL.out _ HBX.out).mono ?_; rintro e w10 ⟨rfl, hb10⟩))
                go_ret
                exact ⟨rfl, HLA.out _ _ HBX.out hb10⟩
              · have HC2 := Lib.hid (show sgCode 0 0 s name = 2 by rw [HC.out, if_neg hyes])
                obtain ⟨C1, hC1⟩ : ∃ C, s.all clearB = C := ⟨_, rfl⟩
                rw [hC1]
                have HSG2 := Lib.hid ((HSG.out kb _ HB4.out HKB.out HKF.out).mono (fun e w' (hh : SgPost S w _ kb sec 0 0 s name e w') => (by
                  obtain ⟨ev, rfl, h1, h2, _, h4⟩ := hh
                  rw [HC2.out] at h1 h2 ⊢
                  exact ⟨ev, rfl, h1, h2, h4⟩ : ∃ ev, e = .returned (.tuple #[.string ⟨#[]⟩, ev]) ∧ ErrAt S w' ev 2 none ∧ KeyF w' kb sec 0 0 ∧ Below w.heap.size w w')))
                go_upto_region 16 with (go_at_call 10; refine HSG2.out.mono ?_; rintro e w6 ⟨ev, rfl, he, hk6, hb6⟩; have HEX := Lib.hid he; have HBX := Lib.hid hb6; have HKX := Lib.hid hk6; obtain ⟨T6, x6, rfl, _, hne6⟩ := ErrAt.some4 he (by decide); clear he hk6 hb6)
                clear hne6 HSG2
                go_wp2_with fail
                go_loopw [14, 15] (fun cv iv wr => TkR lowB s w6 cv iv wr) (fun _ iv _ => s.length - (intOf iv).toNat)
                case atStart => exact ⟨0, rfl, Nat.zero_le _, rfl, rfl⟩
                case round =>
                  obtain ⟨i, rfl, hi, rfl, rfl⟩ := hrel
                  by_cases hlt : i < s.length
                  · obtain ⟨b, hb⟩ : ∃ b, s[i]? = some b := ⟨_, List.getElem?_eq_getElem hlt⟩
                    have hix := HIX.out i b hb
                    have ht := all_take (p := lowB) hb
                    have i1 : (i : Int) < (s.length : Int) := by omega
                    obtain ⟨C, hC⟩ : ∃ C, (s.take i).all lowB = C := ⟨_, rfl⟩
                    rw [hC] at ht ⊢
                    clear hC
                    cases C with
                    | false =>
                      go_wp2_with fail
                      refine ⟨⟨i + 1, by go_num, hlt, by rw [ht]; rfl, rfl⟩, by simp [intOf]; omega⟩
                    | true =>
                      by_cases h127 : b.toNat < 127
                      · have f1 : (b.toNat : Int) < 127 := by omega
                        have hcl : lowB b = true := decide_eq_true h127
                        go_wp2_with fail
                        refine ⟨⟨i + 1, by go_num, hlt, by rw [ht, hcl]; rfl, rfl⟩, by simp [intOf]; omega⟩
                      · have f1 : ¬ (b.toNat : Int) < 127 := by omega
                        have hcl : lowB b = false := decide_eq_false h127
                        go_wp2_with fail
                        refine ⟨⟨i + 1, by go_num, hlt, by rw [ht, hcl]; rfl, rfl⟩, by simp [intOf]; omega⟩
                  · obtain rfl : i = s.length := by omega
                    have i1 : ¬ (s.length : Int) < (s.length : Int) := by omega
                    rw [List.take_length]
                    clear hi hlt
                    obtain ⟨A1, hA1⟩ : ∃ A, s.all lowB = A := ⟨_, rfl⟩
                    rw [hA1]
                    cases C1 with
                    | false =>
                      go_wp2_with (first | (go_at_call 11; refine (HI2.out _ _ HBX.out HEX.out).mono ?_; rintro e w7 ⟨rfl, hb7⟩; have HKX := Lib.hid (HKX.out.below hb7); have HBX := Lib.hid (HLA.out _ _ HBX.out hb7); clear hb7) | (go_at_call 14; refine (HLE0.out _ _ HKX.out).mono ?_; rintro e w8 ⟨rfl, hb8⟩; have HBX := Lib.hid (HLA.out _ _ HBX.out hb8); clear hb8) | (go_at_call 17; refine (HNA.out _ HBX.out).mono ?_; rintro e w9 ⟨rfl, hb9⟩; have HBX := Lib.hid (HLA.out _ _ HBX.out hb9); clear hb9) | (go_at_call 7; refine (HAL.out _ HBX.out).mono ?_; rintro e w10 ⟨rfl, hb10⟩))
                      go_ret
                      exact ⟨rfl, HLA.out _ _ HBX.out hb10⟩
                    | true =>
                      cases A1 with
                      | false =>
                        go_wp2_with (first | (go_at_call 11; refine (HI2.out _ _ HBX.out HEX.out).mono ?_; rintro e w7 ⟨rfl, hb7⟩; have HKX := Lib.hid (HKX.out.below hb7); have HBX := Lib.hid (HLA.out _ _ HBX.out hb7); clear hb7) | (go_at_call 14; refine (HLE0.out _ _ HKX.out).mono ?_; rintro e w8 ⟨rfl, hb8⟩; have HBX := Lib.hid (HLA.out _ _ HBX.out hb8); clear hb8) | (go_at_call 17; refine (HNA.out _ HBX.out).mono ?_; rintro e w9 ⟨rfl, hb9⟩; have HBX := Lib.hid (HLA.out _ _ HBX.out hb9); clear hb9) | (go_at_call 7; refine (HAL.out _ HBX.out).mono ?_; rintro e w10 ⟨rfl, hb10⟩))
                        go_ret
                        exact ⟨rfl, HLA.out _ _ HBX.out hb10⟩
                      | true =>
                        have hnf : nameOf name = false := by
                          cases e : nameOf name with
                          | false => rfl
                          | true =>
                            exfalso
                            cases e2 : mayTxt s with
                            | true => exact hyes ⟨e, e2⟩
                            | false => first | exact HNO.out e2 rfl hC1 hA1 | exact HNO.out e2 trivial hC1 hA1
                        rw [hnf] at HNA
                        go_wp2_with (first | (go_at_call 11; refine (HI2.out _ _ HBX.out HEX.out).mono ?_; rintro e w7 ⟨rfl, hb7⟩; have HKX := Lib.hid (HKX.out.below hb7); have HBX := Lib.hid (HLA.out _ _ HBX.out hb7); clear hb7) | (go_at_call 14; refine (HLE0.out _ _ HKX.out).mono ?_; rintro e w8 ⟨rfl, hb8⟩; have HBX := Lib.hid (HLA.out _ _ HBX.out hb8); clear hb8) | (go_at_call 17; refine (HNA.out _ HBX.out).mono ?_; rintro e w9 ⟨rfl, hb9⟩; have HBX := Lib.hid (HLA.out _ _ HBX.out hb9); clear hb9) | (go_at_call 7; refine (HAL.out _ HBX.out).mono ?_; rintro e w10 ⟨rfl, hb10⟩))
                        go_ret
                        exact ⟨rfl, HLA.out _ _ HBX.out hb10⟩
        · have f10 : ¬ (b.toNat : Int) = 10 := by omega
          have f10b : ((b.toNat : Int) == 10) = false := by rw [beq_eq_false_iff_ne]; exact f10
          obtain rfl : M = false := by rw [hMb]; exact decide_eq_false h10
          clear hMb h10
          have HC2 := Lib.hid (show sgCode 0 0 s name = 2 by rw [HC.out, if_neg]; rintro ⟨_, h⟩; have := (HY.out h).1; cases this)
          go_wp2_with fail
          go_loopw [10, 11] (fun cv iv wr => TkR clearB s w4 cv iv wr) (fun _ iv _ => s.length - (intOf iv).toNat)
          case atStart => exact ⟨0, rfl, Nat.zero_le _, rfl, rfl⟩
          case round =>
            obtain ⟨i, rfl, hi, rfl, rfl⟩ := hrel
            by_cases hlt : i < s.length
            · obtain ⟨b, hb⟩ : ∃ b, s[i]? = some b := ⟨_, List.getElem?_eq_getElem hlt⟩
              have hix := HIX.out i b hb
              have ht := all_take (p := clearB) hb
              have i1 : (i : Int) < (s.length : Int) := by omega
              obtain ⟨C, hC⟩ : ∃ C, (s.take i).all clearB = C := ⟨_, rfl⟩
              rw [hC] at ht ⊢
              clear hC
              cases C with
              | false =>
                go_wp2_with fail
                refine ⟨⟨i + 1, by go_num, hlt, by rw [ht]; rfl, rfl⟩, by simp [intOf]; omega⟩
              | true =>
                by_cases h32 : 32 ≤ b.toNat
                · have f1 : (32 : Int) ≤ (b.toNat : Int) := by omega
                  by_cases h127 : b.toNat = 127
                  · have f2 : (b.toNat : Int) = 127 := by omega
                    have hcl : clearB b = false := by unfold clearB; simp [h127]
                    go_wp2_with fail
                    refine ⟨⟨i + 1, by go_num, hlt, by rw [ht, hcl]; rfl, rfl⟩, by simp [intOf]; omega⟩
                  · have f2 : ¬ (b.toNat : Int) = 127 := by omega
                    have f2b : ((b.toNat : Int) == 127) = false := by rw [beq_eq_false_iff_ne]; exact f2
                    have hcl : clearB b = true := by unfold clearB; simp [h32, h127]
                    have f2c : ((b.toNat : Int) != 127) = true := by rw [bne, f2b]; rfl
                    go_wp2_with fail
                    refine ⟨⟨i + 1, by go_num, hlt, by rw [ht, hcl]; first | rfl | (rw [f2c]; rfl), rfl⟩, by simp [intOf]; omega⟩
                · have f1 : ¬ (32 : Int) ≤ (b.toNat : Int) := by omega
                  by_cases h10 : b.toNat = 10
                  · have f2 : (b.toNat : Int) = 10 := by omega
                    have hcl : clearB b = true := by unfold clearB; simp [h10]
                    go_wp2_with fail
                    refine ⟨⟨i + 1, by go_num, hlt, by rw [ht, hcl]; rfl, rfl⟩, by simp [intOf]; omega⟩
                  · have f2 : ¬ (b.toNat : Int) = 10 := by omega
                    have f2b : ((b.toNat : Int) == 10) = false := by rw [beq_eq_false_iff_ne]; exact f2
                    have hcl : clearB b = false := by unfold clearB; simp [h10]; omega
                    go_wp2_with fail
                    refine ⟨⟨i + 1, by go_num, hlt, by rw [ht, hcl]; rfl, rfl⟩, by simp [intOf]; omega⟩
            · obtain rfl : i = s.length := by omega
              have i1 : ¬ (s.length : Int) < (s.length : Int) := by omega
              rw [List.take_length]
              clear hi hlt
              generalize s.all clearB = C1 at *
              have HSG2 := Lib.hid ((HSG.out kb _ HB4.out HKB.out HKF.out).mono (fun e w' (hh : SgPost S w _ kb sec 0 0 s name e w') => (by
                obtain ⟨ev, rfl, h1, h2, _, h4⟩ := hh
                rw [HC2.out] at h1 h2 ⊢
                exact ⟨ev, rfl, h1, h2, h4⟩ : ∃ ev, e = .returned (.tuple #[.string ⟨#[]⟩, ev]) ∧ ErrAt S w' ev 2 none ∧ KeyF w' kb sec 0 0 ∧ Below w.heap.size w w')))
              go_upto_region 16 with (go_at_call 10; refine HSG2.out.mono ?_; rintro e w6 ⟨ev, rfl, he, hk6, hb6⟩; have HEX := Lib.hid he; have HBX := Lib.hid hb6; have HKX := Lib.hid hk6; obtain ⟨T6, x6, rfl, _, hne6⟩ := ErrAt.some4 he (by decide); clear he hk6 hb6)
              clear hne6 HSG2
              go_wp2_with fail
              go_loopw [14, 15] (fun cv iv wr => TkR lowB s w6 cv iv wr) (fun _ iv _ => s.length - (intOf iv).toNat)
              case atStart => exact ⟨0, rfl, Nat.zero_le _, rfl, rfl⟩
              case round =>
                obtain ⟨i, rfl, hi, rfl, rfl⟩ := hrel
                by_cases hlt : i < s.length
                · obtain ⟨b, hb⟩ : ∃ b, s[i]? = some b := ⟨_, List.getElem?_eq_getElem hlt⟩
                  have hix := HIX.out i b hb
                  have ht := all_take (p := lowB) hb
                  have i1 : (i : Int) < (s.length : Int) := by omega
                  obtain ⟨C, hC⟩ : ∃ C, (s.take i).all lowB = C := ⟨_, rfl⟩
                  rw [hC] at ht ⊢
                  clear hC
                  cases C with
                  | false =>
                    go_wp2_with fail
                    refine ⟨⟨i + 1, by go_num, hlt, by rw [ht]; rfl, rfl⟩, by simp [intOf]; omega⟩
                  | true =>
                    by_cases h127 : b.toNat < 127
                    · have f1 : (b.toNat : Int) < 127 := by omega
                      have hcl : lowB b = true := decide_eq_true h127
                      go_wp2_with fail
                      refine ⟨⟨i + 1, by go_num, hlt, by rw [ht, hcl]; rfl, rfl⟩, by simp [intOf]; omega⟩
                    · have f1 : ¬ (b.toNat : Int) < 127 := by omega
                      have hcl : lowB b = false := decide_eq_false h127
                      go_wp2_with fail
                      refine ⟨⟨i + 1, by go_num, hlt, by rw [ht, hcl]; rfl, rfl⟩, by simp [intOf]; omega⟩
                · obtain rfl : i = s.length := by omega
                  have i1 : ¬ (s.length : Int) < (s.length : Int) := by omega
                  rw [List.take_length]
                  clear hi hlt
                  generalize s.all lowB = A1 at *
                  go_wp2_with (first | (go_at_call 11; refine (HI2.out _ _ HBX.out HEX.out).mono ?_; rintro e w7 ⟨rfl, hb7⟩; have HKX := Lib.hid (HKX.out.below hb7); have HBX := Lib.hid (HLA.out _ _ HBX.out hb7); clear hb7) | (go_at_call 14; refine (HLE0.out _ _ HKX.out).mono ?_; rintro e w8 ⟨rfl, hb8⟩; have HBX := Lib.hid (HLA.out _ _ HBX.out hb8); clear hb8) | (go_at_call 17; refine (HNA.out _ HBX.out).mono ?_; rintro e w9 ⟨rfl, hb9⟩; have HBX := Lib.hid (HLA.out _ _ HBX.out hb9); clear hb9) | (go_at_call 7; refine (HAL.out _ HBX.out).mono ?_; rintro e w10 ⟨rfl, hb10⟩))
                  go_ret
                  exact ⟨rfl, HLA.out _ _ HBX.out hb10⟩
      · have l2 : ¬ (s.length : Int) ≤ 524288 := by omega
        obtain rfl : M = false := HMN.out (fun h => hbig h.2)
        have HC2 := Lib.hid (show sgCode 0 0 s name = 2 by rw [HC.out, if_neg]; rintro ⟨_, h⟩; have := (HY.out h).1; cases this)
        go_wp2_with fail
        go_loopw [10, 11] (fun cv iv wr => TkR clearB s w4 cv iv wr) (fun _ iv _ => s.length - (intOf iv).toNat)
        case atStart => exact ⟨0, rfl, Nat.zero_le _, rfl, rfl⟩
        case round =>
          obtain ⟨i, rfl, hi, rfl, rfl⟩ := hrel
          by_cases hlt : i < s.length
          · obtain ⟨b, hb⟩ : ∃ b, s[i]? = some b := ⟨_, List.getElem?_eq_getElem hlt⟩
            have hix := HIX.out i b hb
            have ht := all_take (p := clearB) hb
            have i1 : (i : Int) < (s.length : Int) := by omega
            obtain ⟨C, hC⟩ : ∃ C, (s.take i).all clearB = C := ⟨_, rfl⟩
            rw [hC] at ht ⊢
            clear hC
            cases C with
            | false =>
              go_wp2_with fail
              refine ⟨⟨i + 1, by go_num, hlt, by rw [ht]; rfl, rfl⟩, by simp [intOf]; omega⟩
            | true =>
              by_cases h32 : 32 ≤ b.toNat
              · have f1 : (32 : Int) ≤ (b.toNat : Int) := by omega
                by_cases h127 : b.toNat = 127
                · have f2 : (b.toNat : Int) = 127 := by omega
                  have hcl : clearB b = false := by unfold clearB; simp [h127]
                  go_wp2_with fail
                  refine ⟨⟨i + 1, by go_num, hlt, by rw [ht, hcl]; rfl, rfl⟩, by simp [intOf]; omega⟩
                · have f2 : ¬ (b.toNat : Int) = 127 := by omega
                  have f2b : ((b.toNat : Int) == 127) = false := by rw [beq_eq_false_iff_ne]; exact f2
                  have hcl : clearB b = true := by unfold clearB; simp [h32, h127]
                  have f2c : ((b.toNat : Int) != 127) = true := by rw [bne, f2b]; rfl
                  go_wp2_with fail
                  refine ⟨⟨i + 1, by go_num, hlt, by rw [ht, hcl]; first | rfl | (rw [f2c]; rfl), rfl⟩, by simp [intOf]; omega⟩
              · have f1 : ¬ (32 : Int) ≤ (b.toNat : Int) := by omega
                by_cases h10 : b.toNat = 10
                · have f2 : (b.toNat : Int) = 10 := by omega
                  have hcl : clearB b = true := by unfold clearB; simp [h10]
                  go_wp2_with fail
                  refine ⟨⟨i + 1, by go_num, hlt, by rw [ht, hcl]; rfl, rfl⟩, by simp [intOf]; omega⟩
                · have f2 : ¬ (b.toNat : Int) = 10 := by omega
                  have f2b : ((b.toNat : Int) == 10) = false := by rw [beq_eq_false_iff_ne]; exact f2
                  have hcl : clearB b = false := by unfold clearB; simp [h10]; omega
                  go_wp2_with fail
                  refine ⟨⟨i + 1, by go_num, hlt, by rw [ht, hcl]; rfl, rfl⟩, by simp [intOf]; omega⟩
          · obtain rfl : i = s.length := by omega
            have i1 : ¬ (s.length : Int) < (s.length : Int) := by omega
            rw [List.take_length]
            clear hi hlt
            generalize s.all clearB = C1 at *
            have HSG2 := Lib.hid ((HSG.out kb _ HB4.out HKB.out HKF.out).mono (fun e w' (hh : SgPost S w _ kb sec 0 0 s name e w') => (by
              obtain ⟨ev, rfl, h1, h2, _, h4⟩ := hh
              rw [HC2.out] at h1 h2 ⊢
              exact ⟨ev, rfl, h1, h2, h4⟩ : ∃ ev, e = .returned (.tuple #[.string ⟨#[]⟩, ev]) ∧ ErrAt S w' ev 2 none ∧ KeyF w' kb sec 0 0 ∧ Below w.heap.size w w')))
            go_upto_region 16 with (go_at_call 10; refine HSG2.out.mono ?_; rintro e w6 ⟨ev, rfl, he, hk6, hb6⟩; have HEX := Lib.hid he; have HBX := Lib.hid hb6; have HKX := Lib.hid hk6; obtain ⟨T6, x6, rfl, _, hne6⟩ := ErrAt.some4 he (by decide); clear he hk6 hb6)
            clear hne6 HSG2
            go_wp2_with fail
            go_loopw [14, 15] (fun cv iv wr => TkR lowB s w6 cv iv wr) (fun _ iv _ => s.length - (intOf iv).toNat)
            case atStart => exact ⟨0, rfl, Nat.zero_le _, rfl, rfl⟩
            case round =>
              obtain ⟨i, rfl, hi, rfl, rfl⟩ := hrel
              by_cases hlt : i < s.length
              · obtain ⟨b, hb⟩ : ∃ b, s[i]? = some b := ⟨_, List.getElem?_eq_getElem hlt⟩
                have hix := HIX.out i b hb
                have ht := all_take (p := lowB) hb
                have i1 : (i : Int) < (s.length : Int) := by omega
                obtain ⟨C, hC⟩ : ∃ C, (s.take i).all lowB = C := ⟨_, rfl⟩
                rw [hC] at ht ⊢
                clear hC
                cases C with
                | false =>
                  go_wp2_with fail
                  refine ⟨⟨i + 1, by go_num, hlt, by rw [ht]; rfl, rfl⟩, by simp [intOf]; omega⟩
                | true =>
                  by_cases h127 : b.toNat < 127
                  · have f1 : (b.toNat : Int) < 127 := by omega
                    have hcl : lowB b = true := decide_eq_true h127
                    go_wp2_with fail
                    refine ⟨⟨i + 1, by go_num, hlt, by rw [ht, hcl]; rfl, rfl⟩, by simp [intOf]; omega⟩
                  · have f1 : ¬ (b.toNat : Int) < 127 := by omega
                    have hcl : lowB b = false := decide_eq_false h127
                    go_wp2_with fail
                    refine ⟨⟨i + 1, by go_num, hlt, by rw [ht, hcl]; rfl, rfl⟩, by simp [intOf]; omega⟩
              · obtain rfl : i = s.length := by omega
                have i1 : ¬ (s.length : Int) < (s.length : Int) := by omega
                rw [List.take_length]
                clear hi hlt
                generalize s.all lowB = A1 at *
                go_wp2_with (first | (go_at_call 11; refine (HI2.out _ _ HBX.out HEX.out).mono ?_; rintro e w7 ⟨rfl, hb7⟩; have HKX := Lib.hid (HKX.out.below hb7); have HBX := Lib.hid (HLA.out _ _ HBX.out hb7); clear hb7) | (go_at_call 14; refine (HLE0.out _ _ HKX.out).mono ?_; rintro e w8 ⟨rfl, hb8⟩; have HBX := Lib.hid (HLA.out _ _ HBX.out hb8); clear hb8) | (go_at_call 17; refine (HNA.out _ HBX.out).mono ?_; rintro e w9 ⟨rfl, hb9⟩; have HBX := Lib.hid (HLA.out _ _ HBX.out hb9); clear hb9) | (go_at_call 7; refine (HAL.out _ HBX.out).mono ?_; rintro e w10 ⟨rfl, hb10⟩))
                go_ret
                exact ⟨rfl, HLA.out _ _ HBX.out hb10⟩
    · have l1 : ¬ (1 : Int) ≤ (s.length : Int) := by omega
      obtain rfl : M = false := HMN.out (fun h => hle h.1)
      have HC2 := Lib.hid (show sgCode 0 0 s name = 2 by rw [HC.out, if_neg]; rintro ⟨_, h⟩; have := (HY.out h).1; cases this)
      go_wp2_with fail
      go_loopw [10, 11] (fun cv iv wr => TkR clearB s w4 cv iv wr) (fun _ iv _ => s.length - (intOf iv).toNat)
      case atStart => exact ⟨0, rfl, Nat.zero_le _, rfl, rfl⟩
      case round =>
        obtain ⟨i, rfl, hi, rfl, rfl⟩ := hrel
        by_cases hlt : i < s.length
        · obtain ⟨b, hb⟩ : ∃ b, s[i]? = some b := ⟨_, List.getElem?_eq_getElem hlt⟩
          have hix := HIX.out i b hb
          have ht := all_take (p := clearB) hb
          have i1 : (i : Int) < (s.length : Int) := by omega
          obtain ⟨C, hC⟩ : ∃ C, (s.take i).all clearB = C := ⟨_, rfl⟩
          rw [hC] at ht ⊢
          clear hC
          cases C with
          | false =>
            go_wp2_with fail
            refine ⟨⟨i + 1, by go_num, hlt, by rw [ht]; rfl, rfl⟩, by simp [intOf]; omega⟩
          | true =>
            by_cases h32 : 32 ≤ b.toNat
            · have f1 : (32 : Int) ≤ (b.toNat : Int) := by omega
              by_cases h127 : b.toNat = 127
              · have f2 : (b.toNat : Int) = 127 := by omega
                have hcl : clearB b = false := by unfold clearB; simp [h127]
                go_wp2_with fail
                refine ⟨⟨i + 1, by go_num, hlt, by rw [ht, hcl]; rfl, rfl⟩, by simp [intOf]; omega⟩
              · have f2 : ¬ (b.toNat : Int) = 127 := by omega
                have f2b : ((b.toNat : Int) == 127) = false := by rw [beq_eq_false_iff_ne]; exact f2
                have hcl : clearB b = true := by unfold clearB; simp [h32, h127]
                have f2c : ((b.toNat : Int) != 127) = true := by rw [bne, f2b]; rfl
                go_wp2_with fail
                refine ⟨⟨i + 1, by go_num, hlt, by rw [ht, hcl]; first | rfl | (rw [f2c]; rfl), rfl⟩, by simp [intOf]; omega⟩
            · have f1 : ¬ (32 : Int) ≤ (b.toNat : Int) := by omega
              by_cases h10 : b.toNat = 10
              · have f2 : (b.toNat : Int) = 10 := by omega
                have hcl : clearB b = true := by unfold clearB; simp [h10]
                go_wp2_with fail
                refine ⟨⟨i + 1, by go_num, hlt, by rw [ht, hcl]; rfl, rfl⟩, by simp [intOf]; omega⟩
              · have f2 : ¬ (b.toNat : Int) = 10 := by omega
                have f2b : ((b.toNat : Int) == 10) = false := by rw [beq_eq_false_iff_ne]; exact f2
                have hcl : clearB b = false := by unfold clearB; simp [h10]; omega
                go_wp2_with fail
                refine ⟨⟨i + 1, by go_num, hlt, by rw [ht, hcl]; rfl, rfl⟩, by simp [intOf]; omega⟩
        · obtain rfl : i = s.length := by omega
          have i1 : ¬ (s.length : Int) < (s.length : Int) := by omega
          rw [List.take_length]
          clear hi hlt
          generalize s.all clearB = C1 at *
          have HSG2 := Lib.hid ((HSG.out kb _ HB4.out HKB.out HKF.out).mono (fun e w' (hh : SgPost S w _ kb sec 0 0 s name e w') => (by
            obtain ⟨ev, rfl, h1, h2, _, h4⟩ := hh
            rw [HC2.out] at h1 h2 ⊢
            exact ⟨ev, rfl, h1, h2, h4⟩ : ∃ ev, e = .returned (.tuple #[.string ⟨#[]⟩, ev]) ∧ ErrAt S w' ev 2 none ∧ KeyF w' kb sec 0 0 ∧ Below w.heap.size w w')))
          go_upto_region 16 with (go_at_call 10; refine HSG2.out.mono ?_; rintro e w6 ⟨ev, rfl, he, hk6, hb6⟩; have HEX := Lib.hid he; have HBX := Lib.hid hb6; have HKX := Lib.hid hk6; obtain ⟨T6, x6, rfl, _, hne6⟩ := ErrAt.some4 he (by decide); clear he hk6 hb6)
          clear hne6 HSG2
          go_wp2_with fail
          go_loopw [14, 15] (fun cv iv wr => TkR lowB s w6 cv iv wr) (fun _ iv _ => s.length - (intOf iv).toNat)
          case atStart => exact ⟨0, rfl, Nat.zero_le _, rfl, rfl⟩
          case round =>
            obtain ⟨i, rfl, hi, rfl, rfl⟩ := hrel
            by_cases hlt : i < s.length
            · obtain ⟨b, hb⟩ : ∃ b, s[i]? = some b := ⟨_, List.getElem?_eq_getElem hlt⟩
              have hix := HIX.out i b hb
              have ht := all_take (p := lowB) hb
              have i1 : (i : Int) < (s.length : Int) := by omega
              obtain ⟨C, hC⟩ : ∃ C, (s.take i).all lowB = C := ⟨_, rfl⟩
              rw [hC] at ht ⊢
              clear hC
              cases C with
              | false =>
                go_wp2_with fail
                refine ⟨⟨i + 1, by go_num, hlt, by rw [ht]; rfl, rfl⟩, by simp [intOf]; omega⟩
              | true =>
                by_cases h127 : b.toNat < 127
                · have f1 : (b.toNat : Int) < 127 := by omega
                  have hcl : lowB b = true := decide_eq_true h127
                  go_wp2_with fail
                  refine ⟨⟨i + 1, by go_num, hlt, by rw [ht, hcl]; rfl, rfl⟩, by simp [intOf]; omega⟩
                · have f1 : ¬ (b.toNat : Int) < 127 := by omega
                  have hcl : lowB b = false := decide_eq_false h127
                  go_wp2_with fail
                  refine ⟨⟨i + 1, by go_num, hlt, by rw [ht, hcl]; rfl, rfl⟩, by simp [intOf]; omega⟩
            · obtain rfl : i = s.length := by omega
              have i1 : ¬ (s.length : Int) < (s.length : Int) := by omega
              rw [List.take_length]
              clear hi hlt
              generalize s.all lowB = A1 at *
              go_wp2_with (first | (go_at_call 11; refine (HI2.out _ _ HBX.out HEX.out).mono ?_; rintro e w7 ⟨rfl, hb7⟩; have HKX := Lib.hid (HKX.out.below hb7); have HBX := Lib.hid (HLA.out _ _ HBX.out hb7); clear hb7) | (go_at_call 14; refine (HLE0.out _ _ HKX.out).mono ?_; rintro e w8 ⟨rfl, hb8⟩; have HBX := Lib.hid (HLA.out _ _ HBX.out hb8); clear hb8) | (go_at_call 17; refine (HNA.out _ HBX.out).mono ?_; rintro e w9 ⟨rfl, hb9⟩; have HBX := Lib.hid (HLA.out _ _ HBX.out hb9); clear hb9) | (go_at_call 7; refine (HAL.out _ HBX.out).mono ?_; rintro e w10 ⟨rfl, hb10⟩))
              go_ret
              exact ⟨rfl, HLA.out _ _ HBX.out hb10⟩
end Go.Proofs.YticlgcfodlcpcaaGreatDoor
