/-
  batch.start, Root and Verify by their contracts.
-/
import Derived.Test.YthcccgbodceeeaaDoorFSays2
namespace Go.Proofs.YthcccgbodceeeaaDoor
open Go.RowKit

theorem z32_ex2 : ∃ T : List UInt8, (#[.int .u8 0, .int .u8 0, .int .u8 0, .int .u8 0, .int .u8 0, .int .u8 0, .int .u8 0, .int .u8 0, .int .u8 0, .int .u8 0, .int .u8 0, .int .u8 0, .int .u8 0, .int .u8 0, .int .u8 0, .int .u8 0, .int .u8 0, .int .u8 0, .int .u8 0, .int .u8 0, .int .u8 0, .int .u8 0, .int .u8 0, .int .u8 0, .int .u8 0, .int .u8 0, .int .u8 0, .int .u8 0, .int .u8 0, .int .u8 0, .int .u8 0, .int .u8 0] : Array Value) = (Lib.byteCells T).toArray ∧ T.length = 32 := ⟨List.replicate 32 0, rfl, rfl⟩
theorem wpList_hashLoad2 {ops : Array Oper} {rest : List Oper} {o : Oper} {a : Act} {W : World} {Q : Exit → Act → World → Prop} (hw : Region.wanted o (yielded ops a.tmps) = true) (x : Operand) (ho : o.op = .load 33 x)
    (g off : Nat) (hx : a.eval x = .pointer (some ⟨g, off, none⟩)) (l : List UInt8) (hl : l.length = 32) (hr : W.rangeAt g off (Lib.byteCells l))
    (h : wpList Tryd.prog ops Q rest (a.put o.dst (.agg (Lib.byteCells l).toArray)) W) : wpList Tryd.prog ops Q (o :: rest) a W :=
  wpList_step fun K hK => by
    rw [if_pos hw]
    exact wp_load_mid 33 x ho g off hx (Lib.byteCells l) _ hr Tryd.underlying33 rfl (by rw [Lib.byteCells_length, hl]; exact hashInfo) (hK _ _ h)
theorem wpList_hashNe {ops : Array Oper} {rest : List Oper} {o : Oper} {a : Act} {W : World} {Q : Exit → Act → World → Prop} (hw : Region.wanted o (yielded ops a.tmps) = true) (x y : Operand) (t : TypeId) (ho : o.op = .binOp .neq 33 x y t)
    (l m : List UInt8) (hx : a.eval x = .agg (Lib.byteCells l).toArray) (hy : a.eval y = .agg (Lib.byteCells m).toArray) (hl : l.length = 32) (hm : m.length = 32) (v : Bool) (hv : v = decide (l ≠ m))
    (h : wpList Tryd.prog ops Q rest (a.put o.dst (.bool v)) W) : wpList Tryd.prog ops Q (o :: rest) a W :=
  wpList_step fun K hK => by
    rw [if_pos hw]
    have h2 := run_eqGuard_agg W .neq 33 x y (Lib.byteCells l).toArray (Lib.byteCells m).toArray h32_guardT
    unfold Oper.wp execOp
    simp only [ho, hx, hy, Sem.run_bind, h2, Result.andThen_ok, (run_hash_cmp l m hl hm W).1, ← hv]
    exact hK _ _ h
theorem wpList_hashEq2 {ops : Array Oper} {rest : List Oper} {o : Oper} {a : Act} {W : World} {Q : Exit → Act → World → Prop} (hw : Region.wanted o (yielded ops a.tmps) = true) (x y : Operand) (t : TypeId) (ho : o.op = .binOp .eql 33 x y t)
    (l m : List UInt8) (hx : a.eval x = .agg (Lib.byteCells l).toArray) (hy : a.eval y = .agg (Lib.byteCells m).toArray) (hl : l.length = 32) (hm : m.length = 32) (v : Bool) (hv : v = decide (l = m))
    (h : wpList Tryd.prog ops Q rest (a.put o.dst (.bool v)) W) : wpList Tryd.prog ops Q (o :: rest) a W :=
  wpList_step fun K hK => by
    rw [if_pos hw]
    have h2 := run_eqGuard_agg W .eql 33 x y (Lib.byteCells l).toArray (Lib.byteCells m).toArray h32_guardT
    unfold Oper.wp execOp
    simp only [ho, hx, hy, Sem.run_bind, h2, Result.andThen_ok, (run_hash_cmp l m hl hm W).2, ← hv]
    exact hK _ _ h
theorem says_any (S : Nat → Addr) (w0 : World) (hF : FW S w0) (wb B n cap : Nat) (ao : Option Addr) (hs : List (List UInt8)) (F : Nat → List UInt8) (hv : HsIn w0 (.slice ao n cap) hs) (hn : n = hs.length) (hl : ∀ i, i < n → hs[i]? = some (shaL (leafT (F (B + i))))) (hBn : B + n ≤ 400) :
    ∀ (f b e : Nat) (pr : List (List UInt8)) (w : World), WalkAt w0 w wb B (.slice ao n cap) pr → b < e → e ≤ 400 → e - b ≤ f + 1 → (∀ p ∈ pr, p.length = 32) → (outsF spL B (B + n) f b e).length ≤ pr.length →
    Calls Tryd.prog 42 #[.pointer (some ⟨wb, 0, none⟩), spanV b e] w fun x w' => SaysPost w0 wb B (.slice ao n cap) w (eatF spL F B (B + n) f b e pr).1 (eatF spL F B (B + n) f b e pr).2 x w'
  | 0, b, e, pr, w, hW, hbe, he, hf, hp, ho => by
    by_cases h1 : e ≤ B ∨ B + n ≤ b
    · rw [eatF, if_pos h1]
      rw [outsF, if_pos h1] at ho
      cases pr with
      | nil => simp at ho
      | cons p r => exact says_out w0 wb B n cap b e ao p r w hW h1 (by omega)
    · rw [eatF, if_neg h1]
      have h2 := hl (b - B) (by omega)
      rw [show B + (b - B) = b by omega] at h2
      exact says_leaf w0 wb B n cap b e (b - B) ao hs _ pr w hW hv hn h2 (by omega) hbe (by omega) hBn
  | f + 1, b, e, pr, w, hW, hbe, he, hf, hp, ho => by
    by_cases h1 : e ≤ B ∨ B + n ≤ b
    · rw [eatF, if_pos h1]
      rw [outsF, if_pos h1] at ho
      cases pr with
      | nil => simp at ho
      | cons p r => exact says_out w0 wb B n cap b e ao p r w hW h1 (by omega)
    · by_cases h3 : e - b < 2
      · rw [eatF, if_neg h1, if_pos h3]
        have h2 := hl (b - B) (by omega)
        rw [show B + (b - B) = b by omega] at h2
        exact says_leaf w0 wb B n cap b e (b - B) ao hs _ pr w hW hv hn h2 (by omega) hbe (by omega) hBn
      · obtain ⟨k1, k2⟩ := spL_mid' (show 2 ≤ e - b by omega)
        have e1 : outsF spL B (B + n) (f + 1) b e = outsF spL B (B + n) f b (b + spL (e - b)) ++ outsF spL B (B + n) f (b + spL (e - b)) e := by
          rw [outsF, if_neg h1]
          split
          · rename_i hin
            rw [outs_inside spL B (B + n) f b _ hin.1 (by omega) (by omega), outs_inside spL B (B + n) f _ e (by omega) hin.2 (by omega)]
            rfl
          · rfl
        rw [e1, List.length_append] at ho
        have hL := eatF_len F B (B + n) f b (b + spL (e - b)) pr (by omega) (by omega) hp (by omega)
        have hR := eatF_len F B (B + n) f (b + spL (e - b)) e (eatF spL F B (B + n) f b (b + spL (e - b)) pr).2 (by omega) (by omega) (fun p hp' => hp p (by rw [hL.2] at hp'; exact List.mem_of_mem_drop hp')) (by rw [hL.2, List.length_drop]; omega)
        rw [eatF, if_neg h1, if_neg h3]
        refine says_node S w0 hF wb B n cap b e (spL (e - b)) ao _ _ _ pr (eatF spL F B (B + n) f b (b + spL (e - b)) pr).2 _ w hW (by omega) k2 he (by omega) rfl hBn hL.1 hR.1 rfl (fun W hW' => ?_) (fun W hW' => ?_)
        · have := says_any S w0 hF wb B n cap ao hs F hv hn hl hBn f b (b + spL (e - b)) pr W hW' (by omega) (by omega) (by omega) hp (by omega)
          unfold spanV at this
          rwa [show ((b + spL (e - b) : Nat) : Int) = (b : Int) + (spL (e - b) : Int) by push_cast; rfl] at this
        · have := says_any S w0 hF wb B n cap ao hs F hv hn hl hBn f (b + spL (e - b)) e (eatF spL F B (B + n) f b (b + spL (e - b)) pr).2 W hW' (by omega) (by omega) (by omega) (fun p hp' => hp p (by rw [hL.2] at hp'; exact List.mem_of_mem_drop hp')) (by rw [hL.2, List.length_drop]; omega)
          unfold spanV at this
          rwa [show ((b + spL (e - b) : Nat) : Int) = (b : Int) + (spL (e - b) : Int) by push_cast; rfl] at this
/-- May a walk begin? -/
def startOk (B Z n : Nat) (pr : List (List UInt8)) : Prop := 0 < n ∧ B + n ≤ Z ∧ (outs B (B + n) 0 Z).length = pr.length
def StartPost (S : Nat → Addr) (B Z n : Nat) (lv : Value) (pr : List (List UInt8)) (w : World) (x : Ending) (w' : World) : Prop :=
  (startOk B Z n pr → ∃ wb, x = .returned (.tuple #[.pointer (some ⟨wb, 0, none⟩), .nilIface]) ∧ WalkAt w w' wb B lv pr) ∧
  (¬ startOk B Z n pr → ∃ i, x = .returned (.tuple #[.pointer none, errV S i]) ∧ Below w.heap.size w w')
set_option maxHeartbeats 1000000 in
set_option maxRecDepth 100000 in
theorem start_any (S : Nat → Addr) (B Z n cap capp : Nat) (ao aop : Option Addr) (pr : List (List UInt8)) (w : World) (hF : FW S w) (hp : HsIn w (.slice aop pr.length capp) pr) (hB : B ≤ 18446744073709551615) (hZ : Z ≤ 400) (hn : n ≤ 400) :
    Calls Tryd.prog 41 #[.int .u64 (B : Int), .int .u64 (Z : Int), .slice ao n cap, .slice aop pr.length capp] w fun x w' => StartPost S B Z n (.slice ao n cap) pr w x w' := by
  have HF := Lib.hid hF
  have HP := Lib.hid hp
  clear hF hp
  have z1 : ¬ (9223372036854775808 : Int) < (Z : Int) := by omega
  by_cases h0 : n = 0
  · have HNO := Lib.hid (show ¬ startOk B Z n pr from fun h => absurd h.1 (by omega))
    have g := HF.out.var 1 (by omega)
    simp only [errG, errV] at g
    subst h0
    go_enter Tryd.func41, Tryd.ntmps41
    go_wp2_with fail
    go_quiet (fail)
    go_wp2_with fail
    go_ret2
    exact ⟨fun h => absurd h HNO.out, fun _ => ⟨1, rfl, below_drewN (Below.refl _ _) _⟩⟩
  · have n0 : ¬ (n : Int) = 0 := by omega
    by_cases h1 : B + n ≤ Z
    · have n1 : ¬ (Z : Int) < (B : Int) := by omega
      have n2 : ¬ (Z : Int) - (B : Int) < (n : Int) := by omega
      have hw : IntKind.u64.wrap ((B : Int) + (n : Int)) = (B : Int) + (n : Int) := by rw [IntKind.wrap_u64]; omega
      have HSH := Lib.hid (batch_shape B (B + n) Z (by omega) h1 hZ w)
      rw [show ((B + n : Nat) : Int) = (B : Int) + (n : Int) by push_cast; rfl] at HSH
      go_enter Tryd.func41, Tryd.ntmps41
      go_wp2_with (go_at_call 20; refine HSH.out.mono ?_)
      rintro x w1 ⟨v, rfl, ⟨ao1, cap1, rfl, _⟩, hb1⟩
      have HB1 := Lib.hid hb1
      obtain ⟨m, hm⟩ : ∃ m, (outs B (B + n) 0 Z).length = m := ⟨_, rfl⟩
      have HM := Lib.hid hm
      rw [hm]
      clear hb1 hm
      by_cases h2 : m = pr.length
      · have HOK := Lib.hid (show startOk B Z n pr from ⟨by omega, h1, by rw [HM.out, h2]⟩)
        have n3 : (m : Int) = (pr.length : Int) := by omega
        go_wp2_with fail
        go_ret2
        refine ⟨fun _ => ⟨_, rfl, ⟨HB1.out.alloc HB1.out.size _, HB1.out.size, _, heap_one w1 _, HP.out⟩⟩, fun h => absurd HOK.out h⟩
      · have HNO := Lib.hid (show ¬ startOk B Z n pr from fun h => h2 (by rw [← HM.out, h.2.2]))
        have n3 : ¬ (m : Int) = (pr.length : Int) := by omega
        have g := below_cell HB1.out (HF.out.var 4 (by omega))
        simp only [errG, errV] at g
        clear h2
        go_wp2_with fail
        go_quiet (fail)
        go_wp2_with fail
        go_ret2
        exact ⟨fun h => absurd h HNO.out, fun _ => ⟨4, rfl, below_drewN HB1.out _⟩⟩
    · have HNO := Lib.hid (show ¬ startOk B Z n pr from fun h => h1 h.2.1)
      have g := HF.out.var 3 (by omega)
      simp only [errG, errV] at g
      by_cases h3 : Z < B
      · have n1 : (Z : Int) < (B : Int) := by omega
        go_enter Tryd.func41, Tryd.ntmps41
        go_wp2_with fail
        go_quiet (fail)
        go_wp2_with fail
        go_ret2
        exact ⟨fun h => absurd h HNO.out, fun _ => ⟨3, rfl, below_drewN (Below.refl _ _) _⟩⟩
      · have n1 : ¬ (Z : Int) < (B : Int) := by omega
        have n2 : (Z : Int) - (B : Int) < (n : Int) := by omega
        go_enter Tryd.func41, Tryd.ntmps41
        go_wp2_with fail
        go_quiet (fail)
        go_wp2_with fail
        go_ret2
        exact ⟨fun h => absurd h HNO.out, fun _ => ⟨3, rfl, below_drewN (Below.refl _ _) _⟩⟩
def RootPost (S : Nat → Addr) (B Z n : Nat) (pr : List (List UInt8)) (F : Nat → List UInt8) (w : World) (x : Ending) (w' : World) : Prop :=
  ∃ T ev, x = .returned (.tuple #[.agg (Lib.byteCells T).toArray, ev]) ∧ T.length = 32 ∧ Below w.heap.size w w' ∧
    (startOk B Z n pr → ev = .nilIface ∧ T = (eatF spL F B (B + n) Z 0 Z pr).1) ∧ (¬ startOk B Z n pr → ∃ i, ev = errV S i)
set_option maxHeartbeats 1000000 in
set_option maxRecDepth 100000 in
theorem broot_any (S : Nat → Addr) (B Z n cap capp : Nat) (ao aop : Option Addr) (hs pr : List (List UInt8)) (F : Nat → List UInt8) (w : World) (hF : FW S w) (hh : HsIn w (.slice ao n cap) hs) (hn : n = hs.length) (hl : ∀ i, i < n → hs[i]? = some (shaL (leafT (F (B + i))))) (hp : HsIn w (.slice aop pr.length capp) pr) (hB : B ≤ 18446744073709551615) (hZ : Z ≤ 400) (hn4 : n ≤ 400) :
    Calls Tryd.prog 25 #[.int .u64 (B : Int), .int .u64 (Z : Int), .slice ao n cap, .slice aop pr.length capp] w fun x w' => RootPost S B Z n pr F w x w' := by
  obtain ⟨zl, hz32, hzl⟩ := z32_ex2
  have hbo := below_one w (.cells (Lib.byteCells zl).toArray 33)
  have HWO := Lib.hid (heap_one w (.cells (Lib.byteCells zl).toArray 33))
  have HZL := Lib.hid hzl
  have HST := Lib.hid (start_any S B Z n cap capp ao aop pr (w.alloc (.cells (Lib.byteCells zl).toArray 33)) (hF.below hbo) (hp.below hbo) hB hZ hn4)
  have HFO := Lib.hid (hF.below hbo)
  have HHO := Lib.hid (hh.below hbo)
  have HPL := Lib.hid hp.1
  have HL := Lib.hid hl
  have HBO := Lib.hid hbo
  clear hF hh hp hl hbo
  have HSA := Lib.hid (fun (hk : startOk B Z n pr) (wb : Nat) (w1 : World) (hW : WalkAt (w.alloc (.cells (Lib.byteCells zl).toArray 33)) w1 wb B (.slice ao n cap) pr) => (by
    obtain ⟨q1, q2, q3⟩ := hk
    have h := says_any S _ HFO.out wb B n cap ao hs F HHO.out hn HL.out (by omega) Z 0 Z pr w1 hW (by omega) (by omega) (by omega) HPL.out (by rw [← q3]; exact Nat.le_refl _)
    unfold spanV at h
    exact h : Calls Tryd.prog 42 #[.pointer (some ⟨wb, 0, none⟩), .agg #[.int .u64 0, .int .u64 (Z : Int)]] w1 fun x w' => SaysPost (w.alloc (.cells (Lib.byteCells zl).toArray 33)) wb B (.slice ao n cap) w1 (eatF spL F B (B + n) Z 0 Z pr).1 (eatF spL F B (B + n) Z 0 Z pr).2 x w'))
  have HEL := Lib.hid (fun (hk : startOk B Z n pr) => (eatF_len F B (B + n) Z 0 Z pr (by have := hk.1; have := hk.2.1; omega) (by omega) HPL.out (by rw [← hk.2.2]; exact Nat.le_refl _)).1)
  obtain ⟨T, hT⟩ : ∃ T, (eatF spL F B (B + n) Z 0 Z pr).1 = T := ⟨_, rfl⟩
  obtain ⟨R, hR⟩ : ∃ R, (eatF spL F B (B + n) Z 0 Z pr).2 = R := ⟨_, rfl⟩
  have HT := Lib.hid hT
  rw [hT, hR] at HSA
  rw [hT] at HEL
  clear hT hR hn
  go_enter Tryd.func25, Tryd.ntmps25
  go_upto_region 1 with fail
  generalize (w.alloc (.cells (Lib.byteCells zl).toArray 33)) = wo at *
  by_cases hok : startOk B Z n pr
  · have HOK := Lib.hid hok
    clear hok hz32
    go_wp2_with (go_at_call 41; refine HST.out.mono ?_)
    rintro x w1 ⟨h1, _⟩
    obtain ⟨wb, rfl, hW⟩ := h1 HOK.out
    have HW := Lib.hid hW
    have HRW := Lib.hid (below_heap hW.bel HWO.out)
    clear hW h1
    have HTL := Lib.hid (HEL.out HOK.out)
    clear HEL
    go_wp2_with (go_at_call 42; refine (HSA.out HOK.out wb w1 HW.out).mono ?_)
    rintro x wy ⟨rfl, hWy, hgy⟩
    have HRY := Lib.hid ((hgy.block w.heap.size (lt_of_heap HRW.out) (fun e => by have h1 := Option.some.inj e; have h2 := HW.out.ge; have h3 := lt_of_heap HWO.out; omega)).trans HRW.out)
    have HFB := Lib.hid (HBO.out.trans (hWy.bel.mono HBO.out.size))
    clear hWy hgy
    go_wp2_with (refine wpList_store_row (by rfl) 33 (.tmp 8) (.tmp 27) (by rfl) w.heap.size (Lib.byteCells T).toArray (by rfl) (by rfl) 33 (Lib.byteCells zl).toArray HRY.out (by rw [hash_size HTL.out]; exact hashInfo) (by rw [hash_size HTL.out, hash_size HZL.out]) (byteCells_one T) ?_)
    have HRE := Lib.hid (setRow_heap wy w.heap.size _ (Lib.byteCells T).toArray 33 (0, 0) HRY.out)
    have HBR := Lib.hid (below_setRow HFB.out (Nat.le_refl _) (Lib.byteCells T).toArray)
    generalize wy.setRow w.heap.size (Lib.byteCells T).toArray = wJ at *
    go_wp2_with fail
    refine bodyPost_ret (v := .tuple #[.agg (Lib.byteCells T).toArray, .nilIface]) ?_ rfl ⟨T, _, rfl, HTL.out, HBR.out, fun _ => ⟨rfl, HT.out.symm⟩, fun h => absurd HOK.out h⟩
    exact results_row_tmp rfl _ _ w.heap.size 33 _ (0, 0) _ _ rfl rfl HRE.out Tryd.underlying33 rfl (by rw [hash_size HTL.out]; exact hashInfo)
  · have HNO := Lib.hid hok
    clear hok
    go_wp2_with (go_at_call 41; refine HST.out.mono ?_)
    rintro x w1 ⟨_, h1⟩
    obtain ⟨i, rfl, hb1⟩ := h1 HNO.out
    have HRY := Lib.hid (below_heap hb1 HWO.out)
    have HFB := Lib.hid (HBO.out.trans (hb1.mono HBO.out.size))
    obtain ⟨sa, hsa⟩ : ∃ sa, S i = sa := ⟨_, rfl⟩
    have HEV := Lib.hid (show errV S i = .iface 125 (.pointer (some sa)) by rw [← hsa]; rfl)
    rw [HEV.out]
    clear hb1 h1 hsa
    go_wp2_with (refine wpList_store_row (by rfl) 33 (.tmp 8) (.tmp 22) (by rfl) w.heap.size (Lib.byteCells zl).toArray (by rfl) (by rfl) 33 (Lib.byteCells zl).toArray HRY.out (by rw [hash_size HZL.out]; exact hashInfo) (by rw [hash_size HZL.out]) (byteCells_one zl) ?_)
    have HRE := Lib.hid (setRow_heap w1 w.heap.size _ (Lib.byteCells zl).toArray 33 (0, 0) HRY.out)
    have HBR := Lib.hid (below_setRow HFB.out (Nat.le_refl _) (Lib.byteCells zl).toArray)
    generalize w1.setRow w.heap.size (Lib.byteCells zl).toArray = wJ at *
    go_wp2_with fail
    refine bodyPost_ret (v := .tuple #[.agg (Lib.byteCells zl).toArray, .iface 125 (.pointer (some sa))]) ?_ rfl ⟨zl, _, rfl, HZL.out, HBR.out, fun h => absurd h HNO.out, fun _ => ⟨i, HEV.out.symm⟩⟩
    exact results_row_tmp rfl _ _ w.heap.size 33 _ (0, 0) _ _ rfl rfl HRE.out Tryd.underlying33 rfl (by rw [hash_size HZL.out]; exact hashInfo)
/-- Does a proof hold? -/
def verOk (B Z n : Nat) (pr : List (List UInt8)) (F : Nat → List UInt8) (root : List UInt8) : Prop := startOk B Z n pr ∧ (eatF spL F B (B + n) Z 0 Z pr).1 = root
def VerPost (S : Nat → Addr) (ok : Prop) (w : World) (x : Ending) (w' : World) : Prop :=
  (ok → x = .returned .nilIface) ∧ (¬ ok → ∃ i, x = .returned (errV S i)) ∧ Below w.heap.size w w'
set_option maxHeartbeats 1000000 in
set_option maxRecDepth 100000 in
theorem verify_any (S : Nat → Addr) (B Z n cap capp : Nat) (ao aop : Option Addr) (hs pr : List (List UInt8)) (root : List UInt8) (F : Nat → List UInt8) (w : World) (hF : FW S w) (hh : HsIn w (.slice ao n cap) hs) (hn : n = hs.length) (hl : ∀ i, i < n → hs[i]? = some (shaL (leafT (F (B + i))))) (hp : HsIn w (.slice aop pr.length capp) pr) (hB : B ≤ 18446744073709551615) (hZ : Z ≤ 400) (hn4 : n ≤ 400) (hr : root.length = 32) :
    Calls Tryd.prog 9 #[.int .u64 (B : Int), .int .u64 (Z : Int), .slice ao n cap, .slice aop pr.length capp, .agg (Lib.byteCells root).toArray] w fun x w' => VerPost S (verOk B Z n pr F root) w x w' := by
  have hbo := below_one w (.cells (Lib.byteCells root).toArray 33)
  have HWO := Lib.hid (heap_one w (.cells (Lib.byteCells root).toArray 33))
  have HRL := Lib.hid hr
  have HRT := Lib.hid (broot_any S B Z n cap capp ao aop hs pr F (w.alloc (.cells (Lib.byteCells root).toArray 33)) (hF.below hbo) (hh.below hbo) hn hl (hp.below hbo) hB hZ hn4)
  have HFO := Lib.hid (hF.below hbo)
  have HBO := Lib.hid hbo
  clear hF hh hp hl hbo hr hn
  go_enter Tryd.func9, Tryd.ntmps9
  go_upto_region 1 with fail
  generalize (w.alloc (.cells (Lib.byteCells root).toArray 33)) = wo at *
  go_wp2_with (go_at_call 25; refine HRT.out.mono ?_)
  rintro x w1 ⟨T, ev, rfl, hTL, hb1, hok, hno⟩
  have HTL := Lib.hid hTL
  have HR1 := Lib.hid (below_heap hb1 HWO.out)
  have HB1 := Lib.hid (HBO.out.trans (hb1.mono HBO.out.size))
  have HF1 := Lib.hid (HFO.out.below hb1)
  clear hTL hb1
  go_upto_region 2 with (refine wpList_hash (by rfl) (.tmp 11) (.tmp 19) (by rfl) (by rfl) (by rfl) (hash_size HTL.out) (by rfl) (byteCells_one T) ?_)
  have HT2 := Lib.hid (heap_one w1 (.cells (Lib.byteCells T).toArray 33))
  have hb2 := below_one w1 (.cells (Lib.byteCells T).toArray 33)
  have HR2 := Lib.hid (below_heap hb2 HR1.out)
  have HB2 := Lib.hid (HB1.out.trans (hb2.mono HB1.out.size))
  have HF2 := Lib.hid (HF1.out.below hb2)
  generalize w1.alloc (.cells (Lib.byteCells T).toArray 33) = w2 at *
  clear hb2
  by_cases hs1 : startOk B Z n pr
  · obtain ⟨rfl, hTe⟩ := hok hs1
    have HSO := Lib.hid hs1
    have HTE := Lib.hid hTe
    clear hok hno hs1 hTe
    by_cases he : T = root
    · have HE := Lib.hid (show verOk B Z n pr F root from ⟨HSO.out, by rw [← HTE.out, he]⟩)
      have HD := Lib.hid (show false = decide (T ≠ root) by rw [decide_eq_false (fun h => h he)])
      clear he
      go_wp2_with (first | (refine wpList_hashLoad2 (by rfl) (.tmp 11) (by rfl) w1.heap.size 0 (by rfl) T HTL.out (range_row HT2.out) ?_) | (refine wpList_hashLoad2 (by rfl) (.tmp 9) (by rfl) w.heap.size 0 (by rfl) root HRL.out (range_row HR2.out) ?_) | (refine wpList_hashNe (by rfl) (.tmp 24) (.tmp 25) _ (by rfl) T root (by rfl) (by rfl) HTL.out HRL.out false HD.out ?_))
      go_ret
      exact ⟨fun _ => rfl, fun h => absurd HE.out h, HB2.out⟩
    · have HE := Lib.hid (show ¬ verOk B Z n pr F root from fun h => he (by rw [HTE.out, h.2]))
      have HD := Lib.hid (show true = decide (T ≠ root) by rw [decide_eq_true he])
      have g := HF2.out.var 4 (by omega)
      simp only [errG, errV] at g
      clear he
      go_wp2_with (first | (refine wpList_hashLoad2 (by rfl) (.tmp 11) (by rfl) w1.heap.size 0 (by rfl) T HTL.out (range_row HT2.out) ?_) | (refine wpList_hashLoad2 (by rfl) (.tmp 9) (by rfl) w.heap.size 0 (by rfl) root HRL.out (range_row HR2.out) ?_) | (refine wpList_hashNe (by rfl) (.tmp 24) (.tmp 25) _ (by rfl) T root (by rfl) (by rfl) HTL.out HRL.out true HD.out ?_))
      go_ret
      exact ⟨fun h => absurd h HE.out, fun _ => ⟨4, rfl⟩, HB2.out⟩
  · obtain ⟨i, rfl⟩ := hno hs1
    have HE := Lib.hid (show ¬ verOk B Z n pr F root from fun h => hs1 h.1)
    have HEV := Lib.hid (show errV S i = .iface 125 (.pointer (some (S i))) from rfl)
    rw [HEV.out]
    clear hok hno hs1
    go_wp2_with fail
    go_ret
    exact ⟨fun h => absurd h HE.out, fun _ => ⟨i, rfl⟩, HB2.out⟩
end Go.Proofs.YthcccgbodceeeaaDoor
