/-
  cartularyref21: lines and line by contracts; the plain law of a text, line by line. cartularyref21.Parse by its contract.
-/
import Derived.Test.YtjmgkallgflcdaaGreatDoorRefFH
import Derived.Test.YtjmgkallgflcdaaGreatDoorCkP
import Derived.Test.YtjmgkallgflcdaaGreatDoorRefDec
import Derived.Test.YtjmgkallgflcdaaGreatDoorRefF64
import Derived.Test.YtjmgkallgflcdaaGreatDoorRefClear
import Derived.Test.YtjmgkallgflcdaaGreatDoorCkParse
import Derived.Test.YtjmgkallgflcdaaGreatDoorBook4
import Derived.Deep.DeepCutAuto
import Derived.Deep.CutBlock
namespace Go.Proofs.YtjmgkallgflcdaaGreatDoor
open Go.RowKit

/-- The first line, and what stands behind its line feed. -/
def cutL : List UInt8 → Option (List UInt8 × List UInt8)
  | [] => none
  | c :: r => if c = 10 then some ([], r) else match cutL r with
    | none => none
    | some (a, b) => some (c :: a, b)
theorem cutL_some : ∀ {l a r : List UInt8}, cutL l = some (a, r) → l = a ++ 10 :: r ∧ 10 ∉ a
  | [], a, r, h => by cases h
  | c :: m, a, r, h => by
    unfold cutL at h
    by_cases hc : c = 10
    · rw [if_pos hc] at h
      cases h
      exact ⟨by rw [hc]; rfl, by simp⟩
    · rw [if_neg hc] at h
      cases hm : cutL m with
      | none => rw [hm] at h; cases h
      | some x =>
        obtain ⟨b, q⟩ := x
        rw [hm] at h
        cases h
        obtain ⟨h1, h2⟩ := cutL_some hm
        refine ⟨by rw [h1]; rfl, fun hin => ?_⟩
        rcases List.mem_cons.1 hin with e | e
        · exact hc e.symm
        · exact h2 e
theorem cutL_mk : ∀ (a r : List UInt8), 10 ∉ a → cutL (a ++ 10 :: r) = some (a, r)
  | [], r, _ => by simp [cutL]
  | c :: a, r, h => by
    have hc : c ≠ 10 := fun e => h (by rw [e]; exact List.mem_cons_self ..)
    have := cutL_mk a r (fun e => h (List.mem_cons_of_mem _ e))
    rw [List.cons_append, cutL, if_neg hc, this]
theorem cutL_none : ∀ {l : List UInt8}, cutL l = none → 10 ∉ l
  | [], _ => by simp
  | c :: m, h => by
    unfold cutL at h
    by_cases hc : c = 10
    · rw [if_pos hc] at h; cases h
    · rw [if_neg hc] at h
      cases hm : cutL m with
      | none =>
        intro hin
        rcases List.mem_cons.1 hin with e | e
        · exact hc e.symm
        · exact cutL_none hm e
      | some x => rw [hm] at h; cases h
theorem cutL_no {l : List UInt8} (h : 10 ∉ l) : cutL l = none := by
  cases hl : cutL l with
  | none => rfl
  | some x =>
    obtain ⟨a, r⟩ := x
    exact absurd (by rw [(cutL_some hl).1]; simp) h
/-- What stands behind so many lines. -/
def behL : Nat → List UInt8 → Option (List UInt8)
  | 0, l => some l
  | k + 1, l => match cutL l with
    | none => none
    | some (_, r) => behL k r
theorem behL_succ : ∀ {k : Nat} {l d : List UInt8}, behL k l = some d → behL (k + 1) l = (cutL d).map (·.2)
  | 0, l, d, h => by
    obtain rfl := Option.some.inj h
    unfold behL
    cases cutL l with
    | none => rfl
    | some x => rfl
  | k + 1, l, d, h => by
    unfold behL at h ⊢
    cases hl : cutL l with
    | none => rw [hl] at h; cases h
    | some x =>
      rw [hl] at h
      exact behL_succ (k := k) h
theorem behL_none : ∀ {k n : Nat} {l : List UInt8}, behL k l = none → k ≤ n → behL n l = none
  | 0, _, _, h, _ => by cases h
  | k + 1, n, l, h, hn => by
    obtain ⟨m, rfl⟩ : ∃ m, n = m + 1 := ⟨n - 1, by omega⟩
    unfold behL at h ⊢
    cases hl : cutL l with
    | none => rfl
    | some x =>
      rw [hl] at h
      exact behL_none (k := k) h (by omega)
/-- The n-th line, if it is there and is ended. -/
def lineL (n : Nat) (l : List UInt8) : List UInt8 × Bool := match behL n l with
  | none => ([], false)
  | some d => match cutL d with
    | none => ([], false)
    | some (a, _) => (a, true)
theorem lineL_past {k n : Nat} {l d : List UInt8} (h : behL k l = some d) (hd : cutL d = none) (hn : k ≤ n) : lineL n l = ([], false) := by
  unfold lineL
  rcases Nat.lt_or_eq_of_le hn with h1 | rfl
  · have : behL (k + 1) l = none := by rw [behL_succ h, hd]; rfl
    rw [behL_none this h1]
  · rw [h]
    simp only [hd]
theorem lineL_at {n : Nat} {l d : List UInt8} (h : behL n l = some d) : lineL n l = match cutL d with
    | none => ([], false)
    | some (a, _) => (a, true) := by
  unfold lineL
  rw [h]
/-- How many lines there are, an unended one with them. -/
def nL (l : List UInt8) : Nat := l.count 10 + if l.getLast? = none ∨ l.getLast? = some 10 then 0 else 1
theorem nL_cut {l a r : List UInt8} (h : cutL l = some (a, r)) : nL l = nL r + 1 := by
  obtain ⟨rfl, ha⟩ := cutL_some h
  unfold nL
  have h1 : (a ++ 10 :: r).count 10 = r.count 10 + 1 := by
    rw [List.count_append, List.count_eq_zero.2 ha, List.count_cons_self]
    omega
  rw [h1]
  cases r with
  | nil => simp
  | cons x r =>
    have : (a ++ 10 :: x :: r).getLast? = (x :: r).getLast? := by
      rw [List.getLast?_append, List.getLast?_cons_cons]
      cases hq : (x :: r).getLast? with
      | none => simp at hq
      | some y => rfl
    rw [this]
    omega
theorem nL_rest : ∀ {k : Nat} {l d : List UInt8}, behL k l = some d → nL l = k + nL d
  | 0, l, d, h => by
    obtain rfl := Option.some.inj h
    omega
  | k + 1, l, d, h => by
    unfold behL at h
    cases hl : cutL l with
    | none => rw [hl] at h; cases h
    | some x =>
      obtain ⟨a, r⟩ := x
      rw [hl] at h
      rw [nL_cut hl, nL_rest (k := k) h]
      omega
theorem nL_pos {l : List UInt8} (h : l ≠ []) : 0 < nL l := by
  cases hc : cutL l with
  | some x => rw [nL_cut (a := x.1) (r := x.2) hc]; omega
  | none =>
    unfold nL
    have hno := cutL_none hc
    rw [if_neg]
    · omega
    · rintro (e | e)
      · exact h (List.getLast?_eq_none_iff.1 e)
      · exact hno (List.mem_of_getLast? e)
theorem nL_nil : nL [] = 0 := rfl
theorem ckRun_open (k : Nat) (st : CkSt) (d : List UInt8) (h : cutL d = none) (hd : d ≠ []) : ckRun k st [] d = .error k := by
  have := ckRun_skip k st d [] [] (fun x hx e => cutL_none h (e ▸ hx))
  rw [List.append_nil] at this
  rw [this]
  show (if k < 3 ∨ ([] : List UInt8) ++ d ≠ [] then Except.error k else Except.ok st) = _
  rw [if_pos (.inr (by simpa using hd))]
theorem ckRun_cut (k : Nat) (st : CkSt) (d a r : List UInt8) (h : cutL d = some (a, r)) : ckRun k st [] d = match ckStep k a st with
    | none => .error k
    | some st' => ckRun (k + 1) st' [] r := by
  obtain ⟨rfl, ha⟩ := cutL_some h
  rw [ckRun_skip k st a (10 :: r) [] (fun x hx e => ha (e ▸ hx)), List.nil_append, ckRun_line]
  cases ckStep k a st <;> rfl

def LnRel (s : ByteArray) (n : Nat) (va vk : Value) : Prop :=
  ∃ a k : Nat, va = .int .i64 a ∧ vk = .int .i64 k ∧ a ≤ s.size ∧ k ≤ n ∧ behL k s.data.toList = some (s.data.toList.drop a)
def LnIn (s : ByteArray) (a : Nat) (v : Value) : Prop :=
  ∃ j : Nat, v = .int .i64 j ∧ a ≤ j ∧ j ≤ s.size ∧ 10 ∉ (s.data.toList.drop a).take (j - a)

set_option maxHeartbeats 2000000 in
set_option maxRecDepth 100000 in
theorem refLines21_any (s : ByteArray) (w : World) (hs : s.size ≤ 9223372036854775000) :
    Calls Tryz.prog 38 #[.string s] w fun e w' => e = .returned (.int .i64 (nL s.data.toList : Int)) ∧ w = w' := by
  have HS := Lib.hid (size_list s)
  go_enter Tryz.func38, Tryz.ntmps38
  go_wp2_with fail
  go_loop [3, 4] (fun vn vi => ∃ n k : Nat, vn = .int .i64 n ∧ vi = .int .i64 k ∧ k ≤ s.size ∧ n ≤ k ∧ s.data.toList.count 10 = n + (s.data.toList.drop k).count 10) (fun _ vi => s.size - (intOf vi).toNat)
  case atStart => exact ⟨0, 0, rfl, rfl, by omega, by omega, by simp⟩
  case round =>
    obtain ⟨n, k, rfl, rfl, hk, hn, hacc⟩ := hrel
    have HA := Lib.hid hacc
    clear hacc
    by_cases hlt : k < s.size
    · have i0 : (k : Int) < (s.size : Int) := by omega
      obtain ⟨c, hc, hd⟩ := drop_at hlt
      have xk := fun w => run_idx (P := Tryz.prog) Tryz.underlying9 s k c hc (k : Int) rfl .i64 w
      have hc256 := UInt8.toNat_lt c
      have hacc := HA.out
      rw [hd] at hacc
      by_cases h10 : c = 10
      · subst h10
        rw [List.count_cons_self] at hacc
        have HF := Lib.hid hacc
        clear hc hd hacc
        go_wp2_with fail
        go_round
        case rel => exact ⟨n + 1, k + 1, by go_num, by go_num, by omega, by omega, by rw [HF.out]; omega⟩
        case measure => simp [intOf]; omega
      · have hcn : ((c.toNat : Int) == 10) = false := by
          rw [beq_eq_false_iff_ne]; intro e; exact h10 (UInt8.toNat_inj.1 (by simpa using (by omega : c.toNat = 10)))
        rw [List.count_cons_of_ne h10] at hacc
        have HF := Lib.hid hacc
        clear hc hd hacc h10
        go_wp2_with fail
        go_round
        case rel => exact ⟨n, k + 1, rfl, by go_num, by omega, by omega, HF.out⟩
        case measure => simp [intOf]; omega
    · have i0 : ¬ (k : Int) < (s.size : Int) := by omega
      have hcnt : s.data.toList.count 10 = n := by
        rw [HA.out, List.drop_eq_nil_of_le (by rw [HS.out]; omega)]
        simp
      have HC := Lib.hid hcnt
      clear hcnt
      by_cases h0 : 0 < s.size
      · have i1 : (0 : Int) < (s.size : Int) := by omega
        obtain ⟨c, hc⟩ : ∃ c, s.data.toList[s.size - 1]? = some c := ⟨_, List.getElem?_eq_getElem (by have := HS.out; omega)⟩
        have hlast : s.data.toList.getLast? = some c := by rw [List.getLast?_eq_getElem?, HS.out]; exact hc
        have x0 := fun w => run_idx (P := Tryz.prog) Tryz.underlying9 s (s.size - 1) c hc ((s.size : Int) - 1) (by omega) .i64 w
        have hc256 := UInt8.toNat_lt c
        have ew : IntKind.i64.wrap ((s.size : Int) - 1) = (s.size : Int) - 1 := by rw [IntKind.wrap_i64]; omega
        by_cases h10 : c = 10
        · subst h10
          have hf : nL s.data.toList = n := by unfold nL; rw [HC.out, if_pos (.inr hlast)]; rfl
          have HF := Lib.hid hf
          clear hc hlast hf
          go_wp2_with fail
          go_ret
          exact ⟨by rw [HF.out]; rfl, rfl⟩
        · have hcn : ((c.toNat : Int) != 10) = true := by
            rw [bne_iff_ne]; intro e; exact h10 (UInt8.toNat_inj.1 (by simpa using (by omega : c.toNat = 10)))
          have hf : nL s.data.toList = n + 1 := by
            unfold nL
            rw [HC.out, if_neg]
            rw [hlast]
            rintro (e | e)
            · cases e
            · exact h10 (Option.some.inj e)
          have HF := Lib.hid hf
          clear hc hlast hf h10
          go_wp2_with fail
          go_ret
          exact ⟨by rw [HF.out]; go_num, rfl⟩
      · have i1 : ¬ (0 : Int) < (s.size : Int) := by omega
        have hf : nL s.data.toList = n := by
          unfold nL
          rw [HC.out, if_pos (.inl (by rw [List.eq_nil_of_length_eq_zero (show s.data.toList.length = 0 by have := HS.out; omega)]; rfl))]
          rfl
        have HF := Lib.hid hf
        clear hf
        go_wp2_with fail
        go_ret
        exact ⟨by rw [HF.out]; rfl, rfl⟩

set_option maxHeartbeats 2000000 in
set_option maxRecDepth 100000 in
theorem refLine21_any (s : ByteArray) (n : Nat) (w : World) (hs : s.size ≤ 9223372036854775000) (hn : n ≤ 9223372036854775000) :
    Calls Tryz.prog 39 #[.string s, .int .i64 (n : Int)] w fun e w' => e = .returned (.tuple #[.string ⟨(lineL n s.data.toList).1.toArray⟩, .bool (lineL n s.data.toList).2]) ∧ w = w' := by
  have HS := Lib.hid (size_list s)
  go_enter Tryz.func39, Tryz.ntmps39
  go_wp2_with fail
  go_loop [6, 7] (fun va vk => LnRel s n va vk) (fun _ vk => n - (intOf vk).toNat)
  case atStart => exact ⟨0, 0, rfl, rfl, by omega, by omega, rfl⟩
  case round =>
    obtain ⟨a, k, rfl, rfl, ha, hk, hrest⟩ := hrel
    have HR := Lib.hid hrest
    have i0 : (k : Int) ≤ (n : Int) := by omega
    clear hrest
    go_wp2_with fail
    go_loop [8] (fun v => LnIn s a v) (fun v => s.size - (intOf v).toNat)
    case atStart => exact ⟨a, rfl, by omega, ha, by simp⟩
    case round =>
      obtain ⟨j, rfl, haj, hj, hno⟩ := hrel
      have HN := Lib.hid hno
      clear hno
      by_cases hlt : j < s.size
      · have i1 : (j : Int) < (s.size : Int) := by omega
        obtain ⟨c, hc, hd⟩ := drop_at hlt
        have xk := fun w => run_idx (P := Tryz.prog) Tryz.underlying9 s j c hc (j : Int) rfl .i64 w
        have hc256 := UInt8.toNat_lt c
        by_cases h10 : c = 10
        · subst h10
          have i2 : ((j : Int) == (s.size : Int)) = false := by rw [beq_eq_false_iff_ne]; omega
          have hsp : s.data.toList.drop a = (s.data.toList.drop a).take (j - a) ++ 10 :: s.data.toList.drop (j + 1) := by
            rw [← hd, show s.data.toList.drop j = (s.data.toList.drop a).drop (j - a) by rw [List.drop_drop]; congr 1; omega, List.take_append_drop]
          have hcut : cutL (s.data.toList.drop a) = some ((s.data.toList.drop a).take (j - a), s.data.toList.drop (j + 1)) := by
            have := cutL_mk _ (s.data.toList.drop (j + 1)) HN.out
            rwa [← hsp] at this
          have HC := Lib.hid hcut
          clear hc hd hsp hcut
          by_cases hkn : k = n
          · subst hkn
            have i3 : (a : Int) ≤ (j : Int) := by omega
            have i4 : (j : Int) ≤ (s.size : Int) := by omega
            have hf : lineL k s.data.toList = ((s.data.toList.drop a).take (j - a), true) := by rw [lineL_at HR.out, HC.out]
            have HF := Lib.hid hf
            clear hf
            go_wp2_with fail
            go_ret2
            refine ⟨?_, rfl⟩
            rw [HF.out]
            have e : (Value.string (s.extract a j)) = .string ⟨((s.data.toList.drop a).take (j - a)).toArray⟩ := by rw [← Lib.extract_data]
            simp only [← e]
            rfl
          · have i3 : ((k : Int) == (n : Int)) = false := by rw [beq_eq_false_iff_ne]; omega
            have hr : behL (k + 1) s.data.toList = some (s.data.toList.drop (j + 1)) := by rw [behL_succ HR.out, HC.out]; rfl
            have HR2 := Lib.hid hr
            clear hr
            go_wp2_with fail
            go_round
            case rel => exact ⟨j + 1, k + 1, by go_num, by go_num, by omega, by omega, HR2.out⟩
            case measure => simp [intOf]; omega
        · have hcn : ((c.toNat : Int) != 10) = true := by
            rw [bne_iff_ne]; intro e; exact h10 (UInt8.toNat_inj.1 (by simpa using (by omega : c.toNat = 10)))
          have hf : 10 ∉ (s.data.toList.drop a).take (j + 1 - a) := by
            rw [show j + 1 - a = (j - a) + 1 by omega, List.take_add_one, List.getElem?_drop, show a + (j - a) = j by omega, hc]
            intro hin
            rcases List.mem_append.1 hin with e | e
            · exact HN.out e
            · simp at e
              exact h10 e.symm
          have HF := Lib.hid hf
          clear hc hd hf h10
          go_wp2_with fail
          go_round
          case rel => exact ⟨j + 1, by go_num, by omega, by omega, HF.out⟩
          case measure => simp [intOf]; omega
      · obtain rfl : j = s.size := by omega
        have i1 : ¬ (s.size : Int) < (s.size : Int) := by omega
        have hcut : cutL (s.data.toList.drop a) = none := cutL_no (by
          have := HN.out
          rwa [List.take_of_length_le (by rw [List.length_drop, HS.out]; exact Nat.le_refl _)] at this)
        have hf : lineL n s.data.toList = ([], false) := lineL_past HR.out hcut hk
        have HF := Lib.hid hf
        clear hf hcut
        go_wp2_with fail
        go_ret2
        refine ⟨?_, rfl⟩
        rw [HF.out]
        rfl
end Go.Proofs.YtjmgkallgflcdaaGreatDoor

namespace Go.Proofs.YtjmgkallgflcdaaGreatDoor
open Go.RowKit

/-- What a reading of a checkpoint by the reference says. -/
def RefPost (w : World) (A : CkSt × Nat × Option Int) (e : Ending) (w' : World) : Prop :=
  ∃ cs, e = .returned (.tuple #[.agg cs, .agg #[.int .i64 (A.2.1 : Int), .int .i64 (fz A.2.1 A.2.2)]]) ∧ Below w.heap.size w w' ∧ (A.2.1 ≠ 0 → cs = ckZero) ∧ (A.2.1 = 0 → CkVal w.heap.size w' cs A.1)
theorem results_rows2 {P : Program} {fn : Func} {u p : Tmp} {ty ty2 : TypeId} (h : fn.results = #[.cell p ty, .cell u ty2]) (tmps : Array Value) (w : World) (g g2 : Nat) (t t2 : TypeId) (cs cs2 : Array Value) (fr fr2 : Nat × Nat) (d d2 : TypeDesc)
    (hp : tmps.getD p undef = .pointer (some ⟨g, 0, none⟩)) (hg : w.heap[g]? = some (.cells cs t fr)) (hp2 : tmps.getD u undef = .pointer (some ⟨g2, 0, none⟩)) (hg2 : w.heap[g2]? = some (.cells cs2 t2 fr2))
    (hu : P.underlying ty = some d) (hd : (match d with | .struct _ | .array _ _ => true | _ => false) = true) (hi : (P.info? ty).map (·.size) = some cs.size)
    (hu2 : P.underlying ty2 = some d2) (hd2 : (match d2 with | .struct _ | .array _ _ => true | _ => false) = true) (hi2 : (P.info? ty2).map (·.size) = some cs2.size) :
    (results fn tmps).run P w = .ok (.tuple #[.agg cs, .agg cs2]) w := by
  have hp' : tmps[p]?.getD undef = .pointer (some ⟨g, 0, none⟩) := by simpa using hp
  have hp2' : tmps[u]?.getD undef = .pointer (some ⟨g2, 0, none⟩) := by simpa using hp2
  simp [results, h, hp', hp2', asAddr, run_loadVar_row w g t ty cs fr d hg hu hd hi, run_loadVar_row w g2 t2 ty2 cs2 fr2 d2 hg2 hu2 hd2 hi2, Result.andThen]
theorem ret_ckf {fn : Func} {u p : Tmp} (hf : fn.results = #[.cell p 27, .cell u 36]) {Q : Ending → World → Prop} {a : Act} {w : World} (g g2 : Nat) (cs : Array Value) (c z : Int)
    (hg : w.heap[g]? = some (.cells cs 27 (0, 0))) (hcs : cs.size = 35) (hg2 : faultRow w g2 c z) (hd : a.defers = []) (hp : a.tmps.getD p undef = .pointer (some ⟨g, 0, none⟩)) (hv : a.tmps.getD u undef = .pointer (some ⟨g2, 0, none⟩))
    (hQ : Q (.returned (.tuple #[.agg cs, .agg #[.int .i64 c, .int .i64 z]])) w) : bodyPost Tryz.prog fn Q .ret a w := by
  refine bodyPost_ret (v := .tuple #[.agg cs, .agg #[.int .i64 c, .int .i64 z]]) ?_ hd hQ
  exact results_rows2 hf _ _ g g2 27 36 _ _ (0, 0) (0, 0) _ _ hp hg hv hg2 Tryz.underlying27 rfl (by rw [hcs]; exact ckInfo) Tryz.underlying36 rfl faultInfo
def zeroRow (W : World) (g : Nat) : Prop := W.heap[g]? = some (.cells ckZero 27 (0, 0))
/-- The two result cells as nobody has written them. -/
structure Res0 (w W : World) : Prop where
  ck : zeroRow W w.heap.size
  ft : faultRow W (w.heap.size + 1) 0 0
  bel : Below w.heap.size w W
theorem Res0.below {w W W' : World} (h : Res0 w W) (hb : Below W.heap.size W W') : Res0 w W' := ⟨below_heap hb h.ck, h.ft.below hb, below_trans h.bel hb⟩
theorem Res0.keeps {w W W' : World} {B cb : Nat} (h : Res0 w W) (hk : Keeps B cb W W') (h1 : w.heap.size + 2 ≤ cb) (h2 : cb < B) (hb : Below w.heap.size w W') : Res0 w W' :=
  ⟨(hk.2 _ (by omega) (by omega)).trans h.ck, (hk.2 _ (by omega) (by omega)).trans h.ft, hb⟩
theorem res_mid {w W : World} (h : Res0 w W) (cs : Array Value) : faultRow (W.setRow w.heap.size cs) (w.heap.size + 1) 0 0 :=
  (setRow_other W w.heap.size (w.heap.size + 1) cs (by omega)).trans h.ft
theorem res_write {w W : World} (h : Res0 w W) (cs : Array Value) (c z : Int) :
    (((W.setRow w.heap.size cs).setCell ⟨w.heap.size + 1, 0, none⟩ (.int .i64 c)).setCell ⟨w.heap.size + 1, 1, none⟩ (.int .i64 z)).heap[w.heap.size]? = some (.cells cs 27 (0, 0)) ∧
    faultRow (((W.setRow w.heap.size cs).setCell ⟨w.heap.size + 1, 0, none⟩ (.int .i64 c)).setCell ⟨w.heap.size + 1, 1, none⟩ (.int .i64 z)) (w.heap.size + 1) c z ∧
    Below w.heap.size w (((W.setRow w.heap.size cs).setCell ⟨w.heap.size + 1, 0, none⟩ (.int .i64 c)).setCell ⟨w.heap.size + 1, 1, none⟩ (.int .i64 z)) ∧
    (∀ j, w.heap.size + 2 ≤ j → (((W.setRow w.heap.size cs).setCell ⟨w.heap.size + 1, 0, none⟩ (.int .i64 c)).setCell ⟨w.heap.size + 1, 1, none⟩ (.int .i64 z)).heap[j]? = W.heap[j]?) := by
  have h1 := setRow_heap W w.heap.size ckZero cs _ _ h.ck
  have h2 : faultRow (W.setRow w.heap.size cs) (w.heap.size + 1) 0 0 := (setRow_other W w.heap.size (w.heap.size + 1) cs (by omega)).trans h.ft
  refine ⟨?_, fault_set h2 c z, ((below_setRow h.bel (Nat.le_refl _) cs).setCell (p := ⟨w.heap.size + 1, 0, none⟩) (by simp) _).setCell (p := ⟨w.heap.size + 1, 1, none⟩) (by simp) _, fun j hj => ?_⟩
  · rw [heap_setCell_other _ _ _ _ (show w.heap.size ≠ w.heap.size + 1 by omega), heap_setCell_other _ _ _ _ (show w.heap.size ≠ w.heap.size + 1 by omega)]
    exact h1
  · rw [heap_setCell_other _ _ _ _ (show j ≠ w.heap.size + 1 by omega), heap_setCell_other _ _ _ _ (show j ≠ w.heap.size + 1 by omega)]
    exact setRow_other W w.heap.size j cs (by omega)

/-- What the loop over the lines knows. -/
def RPRel (s : ByteArray) (w : World) (vi : Value) (W : World) : Prop :=
  ∃ (i a : Nat) (st : CkSt), vi = .int .i64 i ∧ Res0 w W ∧ CkAt W (w.heap.size + 2) (w.heap.size + 3) st ∧ w.heap.size + 3 ≤ W.heap.size ∧ a ≤ s.size ∧ i ≤ a ∧ st.2.2.2.length ≤ i ∧ (i < 3 → st.2.2.2 = []) ∧
    behL i s.data.toList = some (s.data.toList.drop a) ∧ ckRun 0 st0 [] s.data.toList = ckRun i st [] (s.data.toList.drop a)
/-- What a line leaves. -/
def RPCut (s : ByteArray) (w : World) (i : Nat) (v : Value) (W : World) : Prop :=
  Res0 w W ∧ ((v = .bool false ∧ ckRun 0 st0 [] s.data.toList = .error i) ∨ (v = .bool true ∧ RPRel s w (.int .i64 ((i + 1 : Nat) : Int)) W ∧ i + 1 ≤ s.size))

theorem ckAt_below {W W' : World} {cb B : Nat} {st : CkSt} (h : CkAt W cb B st) (hb : Below W.heap.size W W') : CkAt W' cb B st := by
  obtain ⟨ev, h1, h2, h3⟩ := h
  have h2' : W.ownsRow B 9 1 ev _ _ := h2
  exact ⟨ev, h1.below hb, owns_keep h2' (fun g hg => hb.block g ((h2'.lt g hg).2)), h3⟩
theorem ckAt_set0 {W : World} {cb B : Nat} {st : CkSt} (h : CkAt W cb B st) (hcb : cb < B) (t : ByteArray) : CkAt (W.setCell ⟨cb, 0, none⟩ (.string t)) cb B (t.data.toList, st.2) := by
  obtain ⟨ev, h1, h2, h3⟩ := h
  have h2' : W.ownsRow B 9 1 ev _ _ := h2
  refine ⟨ev, ?_, owns_keep h2' (fun g hg => heap_setCell_other _ _ _ _ (by have := (h2'.lt g hg).1; show g ≠ cb; omega)), h3⟩
  have := h1.set0 t
  rw [ba_back]
  exact this
theorem ckAt_set1 {W : World} {cb B : Nat} {st : CkSt} (h : CkAt W cb B st) (hcb : cb < B) (n : Nat) : CkAt (W.setCell ⟨cb, 1, none⟩ (.int .u64 (n : Int))) cb B (st.1, n, st.2.2) := by
  obtain ⟨ev, h1, h2, h3⟩ := h
  have h2' : W.ownsRow B 9 1 ev _ _ := h2
  exact ⟨ev, h1.set1 n, owns_keep h2' (fun g hg => heap_setCell_other _ _ _ _ (by have := (h2'.lt g hg).1; show g ≠ cb; omega)), h3⟩
theorem ckAt_cells {W : World} {cb B : Nat} {st : CkSt} (h : CkAt W cb B st) : W.cell? ⟨cb, 0, none⟩ = some (.string ⟨st.1.toArray⟩) ∧ W.cell? ⟨cb, 1, none⟩ = some (.int .u64 (st.2.1 : Int)) ∧ W.frozen? ⟨cb, 0, none⟩ = false ∧ W.frozen? ⟨cb, 1, none⟩ = false := by
  obtain ⟨ev, h1, _⟩ := h
  obtain ⟨a, b, _, f⟩ := h1.cells
  exact ⟨a, b, f 0, f 1⟩
theorem Res0.set {w W : World} (h : Res0 w W) {cb : Nat} (hcb : w.heap.size + 2 ≤ cb) (i : Nat) (v : Value) : Res0 w (W.setCell ⟨cb, i, none⟩ v) :=
  ⟨(heap_setCell_other _ _ _ _ (show w.heap.size ≠ cb by omega)).trans h.ck, (heap_setCell_other _ _ _ _ (show w.heap.size + 1 ≠ cb by omega)).trans h.ft, h.bel.setCell (p := ⟨cb, i, none⟩) (show w.heap.size ≤ cb by omega) _⟩
theorem ckAt_root {W : World} {cb B : Nat} {o : List UInt8} {z : Nat} {r : List UInt8} {L : List (List UInt8)} (h : CkAt W cb B (o, z, r, L)) (hcb : cb < B) (k : Nat) (hk : k < 32) (b : UInt8) :
    (∃ u, W.cell? ⟨cb, 2 + k, none⟩ = some u) ∧ W.frozen? ⟨cb, 2 + k, none⟩ = false ∧ CkAt (W.setCell ⟨cb, 2 + k, none⟩ (.int .u8 (b.toNat : Int))) cb B (o, z, r.set k b, L) := by
  obtain ⟨ev, h1, h2, h3⟩ := h
  have h2' : W.ownsRow B 9 1 ev _ _ := h2
  have hl : (Lib.byteCells r).length = 32 := h1.1
  refine ⟨?_, frozen_row h1.2 _, ev, ⟨by rw [Lib.byteCells_length, List.length_set, ← Lib.byteCells_length]; exact hl, ?_⟩, owns_keep h2' (fun g hg => heap_setCell_other _ _ _ _ (by have := (h2'.lt g hg).1; show g ≠ cb; omega)), h3⟩
  · rw [cell_of_row _ _ (2 + k) _ _ _ h1.2]
    have : 2 + k < (ckList ⟨o.toArray⟩ (z : Int) (Lib.byteCells r) ev).toArray.size := by simp [ckList, hl]; omega
    exact ⟨_, Array.getElem?_eq_getElem this⟩
  · rw [heap_setCell_same W cb (2 + k) _ _ _ h1.2]
    have e : (Lib.byteCells r).set k (.int .u8 (b.toNat : Int)) = Lib.byteCells (r.set k b) := by
      simp [Lib.byteCells, List.map_set]
    have e2 : (ckList ⟨o.toArray⟩ (z : Int) (Lib.byteCells r) ev).set (2 + k) (.int .u8 (b.toNat : Int)) = ckList ⟨o.toArray⟩ (z : Int) (Lib.byteCells (r.set k b)) ev := by
      rw [← e]
      unfold ckList
      rw [show 2 + k = k + 1 + 1 by omega, List.set_cons_succ, List.set_cons_succ, List.set_append_left _ _ (by rw [hl]; exact hk)]
    rw [← e2]
    simp
theorem root_step (x r : List UInt8) (k : Nat) (b : UInt8) (hb : x[k]? = some b) (hr : k < r.length) : (x.take k ++ r.drop k).set k b = x.take (k + 1) ++ r.drop (k + 1) := by
  have hk : k < x.length := by
    rcases Nat.lt_or_ge k x.length with h | h
    · exact h
    · rw [List.getElem?_eq_none h] at hb; cases hb
  have hl : (x.take k).length = k := by rw [List.length_take]; omega
  rw [List.set_append_right _ _ (by omega), hl, Nat.sub_self, List.drop_eq_getElem_cons hr, List.set_cons_zero, List.take_add_one, hb]
  simp
/-- One line more behind the others. -/
theorem ckAt_more {w W W5 : World} {cb : Nat} {o : List UInt8} {z : Nat} {r : List UInt8} {L : List (List UInt8)} {ev v' : Value} {t : ByteArray} (hres : Res0 w W) (hcb : cb = w.heap.size + 2) (hrow : CkRow W cb ⟨o.toArray⟩ (z : Int) (Lib.byteCells r) ev) (hown : W.ownsRow (w.heap.size + 3) 9 1 ev L.length ((L.map fun l => (⟨l.toArray⟩ : ByteArray)).map Value.string)) (hsz : w.heap.size + 3 ≤ W.heap.size)
    (g1 : W5.ownsRow (w.heap.size + 3) 9 1 v' (L.length + 1) ((L.map fun l => (⟨l.toArray⟩ : ByteArray)).map Value.string ++ [.string t])) (g2 : W.grownBy W5 ev.ownBlock) :
    ∃ ao c, v' = .slice ao (L.length + 1) c ∧ (∃ u, W5.cell? ⟨cb, 34, none⟩ = some u) ∧ W5.frozen? ⟨cb, 34, none⟩ = false ∧ Res0 w (W5.setCell ⟨cb, 34, none⟩ v') ∧ CkAt (W5.setCell ⟨cb, 34, none⟩ v') cb (w.heap.size + 3) (o, z, r, L ++ [t.data.toList]) ∧ w.heap.size + 3 ≤ (W5.setCell ⟨cb, 34, none⟩ v').heap.size := by
  subst hcb
  have hne : ∀ j, j < w.heap.size + 3 → some j ≠ ev.ownBlock := fun j hj e => by
    have := (hown.lt j e.symm).1
    omega
  have hr5 : CkRow W5 (w.heap.size + 2) ⟨o.toArray⟩ (z : Int) (Lib.byteCells r) ev := hrow.keep (g2.block _ (by omega) (hne _ (by omega)))
  obtain ⟨ao, c, hv⟩ := owns_slice g1
  have hres5 : Res0 w W5 := by
    refine ⟨(g2.block _ (by omega) (hne _ (by omega))).trans hres.ck, (g2.block _ (by omega) (hne _ (by omega))).trans hres.ft, hres.bel.grown g2 (by omega) fun g hg => ?_⟩
    have := (hown.lt g hg).1
    omega
  refine ⟨ao, c, hv, ⟨_, hr5.cells.2.2.1⟩, hr5.cells.2.2.2 34, hres5.set (Nat.le_refl _) 34 v', ⟨v', hr5.set34 v', ?_, fun h => by simp at h⟩, by have := g2.size; simp; omega⟩
  have h0 : W5.ownsRow (w.heap.size + 3) 9 1 v' ((L ++ [t.data.toList]).map fun l => (⟨l.toArray⟩ : ByteArray)).length (((L ++ [t.data.toList]).map fun l => (⟨l.toArray⟩ : ByteArray)).map Value.string) := by
    rw [List.length_map, List.length_append, List.map_append, List.map_append, List.map_cons, List.map_nil, ba_back]
    exact g1
  exact owns_keep h0 fun g hg => by
    have := (h0.lt g hg).1
    exact heap_setCell_other W5 ⟨w.heap.size + 2, 34, none⟩ g v' (by show g ≠ w.heap.size + 2; omega)
def NextAt (s t : ByteArray) (i a : Nat) (st : CkSt) : Prop := ∃ a', a < a' ∧ a' ≤ s.size ∧ behL (i + 1) s.data.toList = some (s.data.toList.drop a') ∧ ckRun 0 st0 [] s.data.toList = match ckStep i t.data.toList st with
        | none => .error i
        | some st' => ckRun (i + 1) st' [] (s.data.toList.drop a')
theorem line_step (s : ByteArray) (i a : Nat) (st : CkSt) (ha : a ≤ s.size) (hr : behL i s.data.toList = some (s.data.toList.drop a)) (hgo : a < s.size ∨ i < 3) (hrun : ckRun 0 st0 [] s.data.toList = ckRun i st [] (s.data.toList.drop a)) :
    ∃ (t : ByteArray) (okb : Bool), lineL i s.data.toList = (t.data.toList, okb) ∧ t.size ≤ s.size ∧ (okb = false → ckRun 0 st0 [] s.data.toList = .error i) ∧
      (okb = true → NextAt s t i a st) := by
  have hsz := size_list s
  cases hc : cutL (s.data.toList.drop a) with
  | none =>
    refine ⟨⟨#[]⟩, false, by rw [lineL_at hr, hc], Nat.zero_le _, fun _ => ?_, (fun h => by cases h)⟩
    rw [hrun]
    by_cases hd : s.data.toList.drop a = []
    · have : s.data.toList.length ≤ a := List.drop_eq_nil_iff.1 hd
      rw [hd]
      show (if i < 3 ∨ ([] : List UInt8) ≠ [] then Except.error i else Except.ok st) = _
      rw [if_pos (.inl (by omega))]
    · exact ckRun_open i st _ hc hd
  | some x =>
    obtain ⟨b, r⟩ := x
    obtain ⟨hb, hno⟩ := cutL_some hc
    have hlen := congrArg List.length hb
    simp only [List.length_drop, List.length_append, List.length_cons] at hlen
    have hr' : r = s.data.toList.drop (a + b.length + 1) := by
      have h2 : (s.data.toList.drop a).drop (b.length + 1) = r := by
        rw [hb, show b.length + 1 = (b ++ [10]).length by simp, show b ++ 10 :: r = (b ++ [10]) ++ r by simp, List.drop_left]
      rw [List.drop_drop] at h2
      rw [← h2, Nat.add_assoc]
    refine ⟨⟨b.toArray⟩, true, by rw [lineL_at hr, hc], by show b.toArray.size ≤ _; simp; omega, (fun h => by cases h), fun _ => ⟨a + b.length + 1, by omega, by omega, ?_, ?_⟩⟩
    · rw [behL_succ hr, hc, ← hr']; rfl
    · rw [hrun, ckRun_cut i st _ b r hc, ← hr']
      all_goals rfl
theorem rp_yes {s t : ByteArray} {w W : World} {i a : Nat} {st st' : CkSt} (hy : NextAt s t i a st) (hst : ckStep i t.data.toList st = some st') (hres : Res0 w W) (hck : CkAt W (w.heap.size + 2) (w.heap.size + 3) st') (hsz : w.heap.size + 3 ≤ W.heap.size) (hia : i ≤ a) (hLi : st.2.2.2.length ≤ i) (hL3 : i < 3 → st.2.2.2 = []) :
    RPCut s w i (.bool true) W := by
  obtain ⟨a', h1, h2, h3, h4⟩ := hy
  rw [hst] at h4
  exact ⟨hres, .inr ⟨rfl, ⟨i + 1, a', st', rfl, hres, hck, hsz, h2, by omega, by have := ckStep_len hst; omega, fun h => by rw [ckStep_nil hst (by omega)]; exact hL3 (by omega), h3, h4⟩, by omega⟩⟩
theorem rp_no {s t : ByteArray} {w W : World} {i a : Nat} {st : CkSt} (hy : NextAt s t i a st) (hst : ckStep i t.data.toList st = none) (hres : Res0 w W) : RPCut s w i (.bool false) W := by
  obtain ⟨a', h1, h2, h3, h4⟩ := hy
  rw [hst] at h4
  exact ⟨hres, .inl ⟨rfl, h4⟩⟩

set_option maxHeartbeats 4000000 in
set_option maxRecDepth 100000 in
theorem refParse_any (s : ByteArray) (w : World) (hs : s.size ≤ 9223372036854775000) :
    Calls Tryz.prog 14 #[.string s] w fun e w' => RefPost w (parseCk s.data.toList) e w' := by
  have HS := Lib.hid (size_list s)
  by_cases hbig : 1048576 < s.size
  · have hr : parseCk s.data.toList = (st0, 4, none) := by unfold parseCk; rw [if_pos (by rw [HS.out]; omega)]
    rw [hr]
    have HP := Lib.hid fun W => faultPlain_any 4 (by decide) W
    clear hr
    go_enter Tryz.func14, Tryz.ntmps14
    go_wp2_with fail
    refine (HP.out _).mono ?_
    rintro e w1 ⟨rfl, b1⟩
    have hres0 : Res0 w ((w.alloc (.cells ckZero 27)).alloc (.cells #[.int .i64 0, .int .i64 0] 36)) := by
      have e1 : (w.alloc (.cells ckZero 27)).heap.size = w.heap.size + 1 := by simp
      refine ⟨(heap_alloc_old _ _ (by rw [e1]; omega)).trans (heap_alloc_new w _), ?_, ((Below.refl _ _).alloc (Nat.le_refl _) _).alloc (by simp) _⟩
      have := heap_alloc_new (w.alloc (.cells ckZero 27)) (.cells #[.int .i64 0, .int .i64 0] 36)
      rwa [e1] at this
    have hr1 := hres0.below b1
    have HR1 := Lib.hid hr1
    obtain ⟨q1, q2, q3, _⟩ := res_write hr1 ckZero 4 (-1)
    have Q1 := Lib.hid q1
    have Q2 := Lib.hid q2
    have Q3 := Lib.hid q3
    obtain ⟨c0, c1, f0, f1⟩ := (res_mid hr1 ckZero).cells
    clear hres0 hr1 q1 q2 q3 b1
    go_wp2_with (refine wpList_store_row rfl 27 (.tmp 2) (.tmp 17) rfl w.heap.size ckZero rfl rfl 27 ckZero HR1.out.ck zero_info rfl zero_one ?_)
    refine ret_ckf (by rfl) w.heap.size (w.heap.size + 1) ckZero 4 (-1) Q1.out rfl Q2.out (by rfl) (by rfl) (by rfl) ?_
    exact ⟨ckZero, rfl, Q3.out, fun _ => rfl, fun h => by cases h⟩
  · have hr : parseCk s.data.toList = toldAt st0 (ckRun 0 st0 [] s.data.toList) := by unfold parseCk; rw [if_neg (by rw [HS.out]; omega)]
    rw [hr]
    clear hr
    have HLS := Lib.hid fun W => refLines21_any s W hs
    have hnr : ∀ k d, behL k s.data.toList = some d → nL s.data.toList = k + nL d := fun k d => nL_rest
    generalize nL s.data.toList = n at *
    have HNR := Lib.hid hnr
    clear hnr
    go_enter Tryz.func14, Tryz.ntmps14
    go_wp2_with fail
    refine (HLS.out _).mono ?_
    rintro e w1 ⟨rfl, rfl⟩
    go_wp2_with fail
    rw [zero_lit]
    have hstart : Res0 w (((w.alloc (.cells ckZero 27)).alloc (.cells #[.int .i64 0, .int .i64 0] 36)).alloc (.cells ckZero 27)) ∧ CkAt (((w.alloc (.cells ckZero 27)).alloc (.cells #[.int .i64 0, .int .i64 0] 36)).alloc (.cells ckZero 27)) (w.heap.size + 2) (w.heap.size + 3) st0 ∧
        w.heap.size + 3 ≤ (((w.alloc (.cells ckZero 27)).alloc (.cells #[.int .i64 0, .int .i64 0] 36)).alloc (.cells ckZero 27)).heap.size := by
      have e1 : (w.alloc (.cells ckZero 27)).heap.size = w.heap.size + 1 := by simp
      have e2 : ((w.alloc (.cells ckZero 27)).alloc (.cells #[.int .i64 0, .int .i64 0] 36)).heap.size = w.heap.size + 2 := by simp
      have h0 : Res0 w ((w.alloc (.cells ckZero 27)).alloc (.cells #[.int .i64 0, .int .i64 0] 36)) := by
        refine ⟨(heap_alloc_old _ _ (by rw [e1]; omega)).trans (heap_alloc_new w _), ?_, ((Below.refl _ _).alloc (Nat.le_refl _) _).alloc (by simp) _⟩
        have := heap_alloc_new (w.alloc (.cells ckZero 27)) (.cells #[.int .i64 0, .int .i64 0] 36)
        rwa [e1] at this
      refine ⟨h0.below ((Below.refl _ _).alloc (Nat.le_refl _) _), ⟨.slice none 0 0, ⟨by simp [st0, Lib.byteCells], ?_⟩, owns_nil _ _, fun _ => rfl⟩, by simp⟩
      have := heap_alloc_new ((w.alloc (.cells ckZero 27)).alloc (.cells #[.int .i64 0, .int .i64 0] 36)) (.cells ckZero 27)
      rw [e2] at this
      exact this
    have HST := Lib.hid hstart
    clear hstart
    generalize ((w.alloc (.cells ckZero 27)).alloc (.cells #[.int .i64 0, .int .i64 0] 36)).alloc (.cells ckZero 27) = W0 at *
    go_loopw [6] (fun vi W => RPRel s w vi W) (fun vi _ => s.size + 1 - (intOf vi).toNat)
    case atStart => exact ⟨0, 0, st0, rfl, HST.out.1, HST.out.2.1, HST.out.2.2, by omega, by omega, by simp [st0], fun _ => rfl, rfl, rfl⟩
    case round =>
      rename World => W
      obtain ⟨i, a, st, rfl, hres, hck, hszW, ha, hia, hLi, hL3, hbeh, hrun⟩ := hrel
      have HRES := Lib.hid hres
      have HCK := Lib.hid hck
      have HL3 := Lib.hid hL3
      have HRUN := Lib.hid hrun
      have HBEH := Lib.hid hbeh
      have hn := HNR.out i _ hbeh
      have hdl : a < s.size ↔ i < n := by
        rw [hn]
        by_cases hlt : a < s.size
        · have : s.data.toList.drop a ≠ [] := fun e => by
            have := congrArg List.length e
            rw [List.length_drop, HS.out] at this; simp at this; omega
          have := nL_pos this
          exact ⟨fun _ => by omega, fun _ => hlt⟩
        · have : s.data.toList.drop a = [] := List.drop_eq_nil_of_le (by rw [HS.out]; omega)
          rw [this, nL_nil]
          exact ⟨fun h => absurd h hlt, fun h => by omega⟩
      clear hres hck hL3 hrun hbeh hn
      by_cases hend : ¬ a < s.size ∧ ¬ i < 3
      · have i0 : ¬ (i : Int) < (n : Int) := by omega
        have i3 : ¬ (i : Int) < 3 := by omega
        have hok0 : ckRun 0 st0 [] s.data.toList = .ok st := by
          rw [HRUN.out, List.drop_eq_nil_of_le (by rw [HS.out]; omega)]
          show (if i < 3 ∨ ([] : List UInt8) ≠ [] then Except.error i else Except.ok st) = _
          rw [if_neg (fun h => h.elim hend.2 (fun h => h rfl))]
        have HA := Lib.hid (show toldAt st0 (ckRun 0 st0 [] s.data.toList) = (st, 0, none) by rw [hok0]; rfl)
        obtain ⟨ev, hrow, hown, hnil⟩ := HCK.out
        have hc35 : (ckList ⟨st.1.toArray⟩ (st.2.1 : Int) (Lib.byteCells st.2.2.1) ev).toArray.size = 35 := by simp [ckList, hrow.1]
        have hone : (ckList ⟨st.1.toArray⟩ (st.2.1 : Int) (Lib.byteCells st.2.2.1) ev).toArray.all (·.oneCell') = true := by
          obtain ⟨ao, cap, rfl⟩ := owns_slice (hown : World.ownsRow _ _ _ _ _ _ _)
          rw [Array.all_eq_true_iff_forall_mem]
          intro v hv
          simp only [List.mem_toArray, ckList, List.mem_cons, List.mem_append, List.not_mem_nil, or_false] at hv
          rcases hv with rfl | rfl | hv | rfl
          · rfl
          · rfl
          · exact Lib.byteCells_one _ v hv
          · rfl
        obtain ⟨q1, q2, q3, q4⟩ := res_write HRES.out (ckList ⟨st.1.toArray⟩ (st.2.1 : Int) (Lib.byteCells st.2.2.1) ev).toArray 0 0
        have hok : RefPost w (st, 0, none) (.returned (.tuple #[.agg (ckList ⟨st.1.toArray⟩ (st.2.1 : Int) (Lib.byteCells st.2.2.1) ev).toArray, .agg #[.int .i64 0, .int .i64 0]])) (((W.setRow w.heap.size (ckList ⟨st.1.toArray⟩ (st.2.1 : Int) (Lib.byteCells st.2.2.1) ev).toArray).setCell ⟨w.heap.size + 1, 0, none⟩ (.int .i64 0)).setCell ⟨w.heap.size + 1, 1, none⟩ (.int .i64 0)) := by
          have hown' : W.ownsRow (w.heap.size + 3) 9 1 ev _ _ := hown
          refine ⟨_, rfl, q3, fun h => absurd rfl h, fun _ => ⟨ev, by have := hrow.1; rwa [Lib.byteCells_length] at this, rfl, ?_, hnil⟩⟩
          have h1 := owns_keep (w' := (((W.setRow w.heap.size (ckList ⟨st.1.toArray⟩ (st.2.1 : Int) (Lib.byteCells st.2.2.1) ev).toArray).setCell ⟨w.heap.size + 1, 0, none⟩ (.int .i64 0)).setCell ⟨w.heap.size + 1, 1, none⟩ (.int .i64 0))) hown' (fun g hg => q4 g (by have := (hown'.lt g hg).1; omega))
          refine ⟨h1.1, ?_⟩
          rcases h1.2 with h' | ⟨g, cap, cur, h1', h2', h3'⟩
          · exact .inl h'
          · exact .inr ⟨g, cap, cur, h1', by omega, h3'⟩
        have hld := hrow.2
        generalize (ckList ⟨st.1.toArray⟩ (st.2.1 : Int) (Lib.byteCells st.2.2.1) ev).toArray = cs at *
        obtain ⟨c0, c1, f0, f1⟩ := (res_mid HRES.out cs).cells
        have HOK := Lib.hid hok
        have HLD := Lib.hid hld
        have HONE := Lib.hid hone
        have H35 := Lib.hid hc35
        have Q1 := Lib.hid q1
        have Q2 := Lib.hid q2
        clear hok hld hone hc35 hrow hown hnil q1 q2 q3 q4 hok0 hdl hend
        go_wp2_with (first | (refine wpList_load_row rfl 27 (.tmp 4) rfl (w.heap.size + 2) rfl 27 cs (0, 0) _ HLD.out Tryz.underlying27 rfl (by rw [H35.out]; exact ckInfo) ?_) | (refine wpList_store_row rfl 27 (.tmp 2) (.tmp 120) rfl w.heap.size cs rfl rfl 27 ckZero HRES.out.ck (by rw [H35.out]; exact ckInfo) (by rw [H35.out]; rfl) HONE.out ?_))
        refine ret_ckf (by rfl) w.heap.size (w.heap.size + 1) cs 0 0 Q1.out H35.out Q2.out (by rfl) (by rfl) (by rfl) ?_
        rw [HA.out]
        exact HOK.out
      · have hgo : a < s.size ∨ i < 3 := by omega
        obtain ⟨t, okb, hln, hts, hno, hyes⟩ := line_step s i a st ha HBEH.out hgo HRUN.out
        have HLN := Lib.hid (refLine21_any s i W hs (by omega))
        rw [hln] at HLN
        simp only [ba_back] at HLN
        have HNO := Lib.hid hno
        have HYES := Lib.hid hyes
        clear hln hno hyes
        have hcond : (i : Int) < (n : Int) ∨ (¬ (i : Int) < (n : Int) ∧ (i : Int) < 3) := by omega
        have hiN : i ≤ 9223372036854775000 := by omega
        clear hdl hend hgo
        go_upto_region 6 with fail
        go_cut [27] (fun s27 wx => s27 = .bool true ∧ wx = W)
        case first =>
          rcases hcond with i0 | ⟨i0, i3⟩
          · go_wp2_with fail
            go_meet
            exact ⟨rfl, rfl⟩
          · go_wp2_with fail
            go_meet
            exact ⟨rfl, rfl⟩
        case rest =>
          obtain ⟨rfl, rfl⟩ := hcut
          clear hcond
          go_wp2_with fail
          refine HLN.out.mono ?_
          rintro e w2 ⟨rfl, rfl⟩
          go_upto_block 2 with fail
          go_cut [8] (fun s8 wx => RPCut s w i s8 wx)
          case first =>
            have hi4 : i = 0 ∨ i = 1 ∨ i = 2 ∨ 3 ≤ i := by omega
            rcases hi4 with e0 | e1 | e2 | e3
            · have k0 : ((i : Int) == 0) = true := by rw [e0]; rfl
              have HI := Lib.hid e0
              clear e0
              obtain ⟨c0, _, f0, _⟩ := ckAt_cells HCK.out
              cases okb with
              | false =>
                have HR6 := Lib.hid (HRES.out.set (Nat.le_refl (w.heap.size + 2)) 0 (.string t))
                go_wp2_with fail
                go_meet
                exact ⟨HR6.out, .inl ⟨rfl, HNO.out (by simp)⟩⟩
              | true =>
                clear c0 f0
                obtain ⟨nm, hnm⟩ : ∃ nm, nameOf t.data.toList = nm := ⟨_, rfl⟩
                have HNM := Lib.hid (refName_any t wc)
                rw [hnm] at HNM
                have hst : ckStep i t.data.toList st = if nm = true then some (t.data.toList, st.2) else none := by unfold ckStep; rw [if_pos HI.out, hnm]
                have HST := Lib.hid hst
                clear hnm hst
                go_wp2_with fail
                refine HNM.out.mono ?_
                rintro e w3 ⟨rfl, b3⟩
                have hck3 := ckAt_below HCK.out b3
                obtain ⟨c0, _, f0, _⟩ := ckAt_cells hck3
                have HR3 := Lib.hid ((HRES.out.below b3).set (Nat.le_refl (w.heap.size + 2)) 0 (.string t))
                have HC3 := Lib.hid (ckAt_set0 hck3 (by omega) t)
                have z3 := b3.size
                have hs3 : (w3.setCell ⟨w.heap.size + 2, 0, none⟩ (.string t)).heap.size = w3.heap.size := by simp
                have HZ := Lib.hid hs3
                clear hck3 b3 hs3
                go_wp2_with fail
                go_meet
                cases nm with
                | true => exact rp_yes (HYES.out (by simp)) HST.out HR3.out HC3.out (by rw [HZ.out]; omega) hia hLi HL3.out
                | false => exact rp_no (HYES.out (by simp)) HST.out HR3.out
            · have k0 : ((i : Int) == 0) = false := by rw [e1]; rfl
              have k1 : ((i : Int) == 1) = true := by rw [e1]; rfl
              have HI := Lib.hid e1
              clear e1
              have HD := Lib.hid (refFromDec_any t wc (by omega))
              obtain ⟨A, hA⟩ : ∃ A, fromDec t.data.toList = A := ⟨_, rfl⟩
              rw [hA] at HD
              have hst : ckStep i t.data.toList st = if A.2.1 = 0 ∧ A.1 ≤ 1048576 then some (st.1, A.1, st.2.2) else none := by
                unfold ckStep
                rw [if_neg (by rw [HI.out]; decide), if_pos HI.out, hA]
              obtain ⟨N, c, p⟩ := A
              simp only [toldN] at HD hst
              have HST := Lib.hid hst
              obtain ⟨C, hC⟩ : ∃ C : Int, (c : Int) = C := ⟨_, rfl⟩
              obtain ⟨Z, hZ⟩ : ∃ Z : Int, fz c p = Z := ⟨_, rfl⟩
              have hCZ : (c = 0 → (C == 0) = true ∧ (Z == 0) = true) ∧ (c ≠ 0 → (C == 0) = false) := by
                refine ⟨fun h => ?_, fun h => ?_⟩
                · subst h
                  rw [← hC, ← hZ]
                  exact ⟨rfl, rfl⟩
                · rw [← hC, beq_eq_false_iff_ne]
                  omega
              have HCZ := Lib.hid hCZ
              rw [hC, hZ] at HD
              clear hA hst hC hZ hCZ
              go_wp2_with fail
              refine HD.out.mono ?_
              rintro e w3 ⟨rfl, b3⟩
              have b4 : Below w3.heap.size w3 (w3.alloc (.cells #[.int .i64 C, .int .i64 Z] 36)) := (Below.refl _ _).alloc (Nat.le_refl _) _
              have hrow4 : faultRow (w3.alloc (.cells #[.int .i64 C, .int .i64 Z] 36)) w3.heap.size C Z := heap_alloc_new w3 _
              obtain ⟨q0, q1, _, _⟩ := hrow4.cells
              have hck4 := ckAt_below (ckAt_below HCK.out b3) b4
              obtain ⟨_, c1, _, f1⟩ := ckAt_cells hck4
              have HR4 := Lib.hid ((((HRES.out.below b3).below b4)).set (Nat.le_refl (w.heap.size + 2)) 1 (.int .u64 (N : Int)))
              have HC4 := Lib.hid (ckAt_set1 hck4 (by omega) N)
              have z3 := b3.size
              have z4 := b4.size
              clear hck4 b3 b4 hrow4
              go_upto_region 16 with fail
              generalize w3.alloc (.cells #[.int .i64 C, .int .i64 Z] 36) = w4 at *
              have hs4 : (w4.setCell ⟨w.heap.size + 2, 1, none⟩ (.int .u64 (N : Int))).heap.size = w4.heap.size := by simp
              have HZ := Lib.hid hs4
              clear hs4
              cases okb with
              | false =>
                go_wp2_with fail
                go_meet
                exact ⟨HR4.out, .inl ⟨rfl, HNO.out (by simp)⟩⟩
              | true =>
                by_cases hc : c = 0
                · obtain ⟨g1, g2⟩ := HCZ.out.1 hc
                  by_cases hN : N ≤ 1048576
                  · have g3 : (N : Int) ≤ 1048576 := by omega
                    have hs := HST.out
                    rw [if_pos ⟨hc, hN⟩] at hs
                    have HS2 := Lib.hid hs
                    clear hc hs
                    go_wp2_with fail
                    go_meet
                    exact rp_yes (HYES.out (by simp)) HS2.out HR4.out HC4.out (by rw [HZ.out]; omega) hia hLi HL3.out
                  · have g3 : ¬ (N : Int) ≤ 1048576 := by omega
                    have hs := HST.out
                    rw [if_neg (fun h => hN h.2)] at hs
                    have HS2 := Lib.hid hs
                    clear hc hs
                    go_wp2_with fail
                    go_meet
                    exact rp_no (HYES.out (by simp)) HS2.out HR4.out
                · have g1 := HCZ.out.2 hc
                  have hs := HST.out
                  rw [if_neg (fun h => hc h.1)] at hs
                  have HS2 := Lib.hid hs
                  clear hc hs
                  go_wp2_with fail
                  go_meet
                  exact rp_no (HYES.out (by simp)) HS2.out HR4.out
            · have k0 : ((i : Int) == 0) = false := by rw [e2]; rfl
              have k1 : ((i : Int) == 1) = false := by rw [e2]; rfl
              have k2 : ((i : Int) == 2) = true := by rw [e2]; rfl
              have HI := Lib.hid e2
              clear e2
              have HD := Lib.hid (refFromB64_any t wc (by omega))
              obtain ⟨A, hA⟩ : ∃ A, fromB64 t.data.toList = A := ⟨_, rfl⟩
              rw [hA] at HD
              have hst : ckStep i t.data.toList st = if A.2.1 = 0 ∧ A.1.length = 32 then some (st.1, st.2.1, A.1, st.2.2.2) else none := by
                unfold ckStep
                rw [if_neg (by rw [HI.out]; decide), if_neg (by rw [HI.out]; decide), if_pos HI.out, hA]
              obtain ⟨xl, c, p⟩ := A
              simp only [told2] at HD hst
              obtain ⟨C, hC⟩ : ∃ C : Int, (c : Int) = C := ⟨_, rfl⟩
              obtain ⟨Z, hZ⟩ : ∃ Z : Int, fz c p = Z := ⟨_, rfl⟩
              have hCZ : (c = 0 → (C == 0) = true ∧ (Z == 0) = true) ∧ (c ≠ 0 → (C == 0) = false) := by
                refine ⟨fun h => ?_, fun h => ?_⟩
                · subst h
                  rw [← hC, ← hZ]
                  exact ⟨rfl, rfl⟩
                · rw [← hC, beq_eq_false_iff_ne]
                  omega
              have HCZ := Lib.hid hCZ
              rw [hC, hZ] at HD
              have hxs : (⟨xl.toArray⟩ : ByteArray).size = xl.length := by show xl.toArray.size = xl.length; simp
              have hxl : (⟨xl.toArray⟩ : ByteArray).data.toList = xl := by simp
              generalize (⟨xl.toArray⟩ : ByteArray) = xb at *
              subst hxl
              have HST := Lib.hid hst
              have HXS := Lib.hid hxs
              clear hA hst hC hZ hCZ hxs
              go_wp2_with fail
              refine HD.out.mono ?_
              rintro e w3 ⟨rfl, b3⟩
              have b4 : Below w3.heap.size w3 (w3.alloc (.cells #[.int .i64 C, .int .i64 Z] 36)) := (Below.refl _ _).alloc (Nat.le_refl _) _
              have hrow4 : faultRow (w3.alloc (.cells #[.int .i64 C, .int .i64 Z] 36)) w3.heap.size C Z := heap_alloc_new w3 _
              obtain ⟨q0, q1, _, _⟩ := hrow4.cells
              have HC4 := Lib.hid (ckAt_below (ckAt_below HCK.out b3) b4)
              have HR4 := Lib.hid (((HRES.out.below b3).below b4))
              have z3 := b3.size
              have z4 := b4.size
              clear b3 b4 hrow4
              go_upto_region 20 with fail
              generalize w3.alloc (.cells #[.int .i64 C, .int .i64 Z] 36) = w4 at *
              cases okb with
              | false =>
                go_wp2_with fail
                go_meet
                exact ⟨HR4.out, .inl ⟨rfl, HNO.out (by simp)⟩⟩
              | true =>
                by_cases hc : c = 0
                · obtain ⟨g1, g2⟩ := HCZ.out.1 hc
                  by_cases hN : xb.size = 32
                  · have g3 : ((xb.size : Int) == 32) = true := by simp; omega
                    have hs := HST.out
                    rw [if_pos ⟨hc, by rw [← HXS.out]; exact hN⟩] at hs
                    have HS2 := Lib.hid hs
                    have HX := Lib.hid hN
                    have hr32 := ck_root HC4.out
                    clear hc hs hN
                    go_wp2_with fail
                    go_loopw [13] (fun vk wr => ∃ k : Nat, k ≤ 32 ∧ vk = .int .i64 k ∧ Res0 w wr ∧ CkAt wr (w.heap.size + 2) (w.heap.size + 3) (st.1, st.2.1, xb.data.toList.take k ++ st.2.2.1.drop k, st.2.2.2) ∧ w.heap.size + 3 ≤ wr.heap.size) (fun vk _ => 32 - (intOf vk).toNat)
                    case atStart => exact ⟨0, by omega, rfl, HR4.out, by rw [List.take_zero, List.drop_zero]; exact HC4.out, by omega⟩
                    case round =>
                      rename World => wr
                      obtain ⟨k, hk, rfl, hrr, hcr, hsr⟩ := hrel
                      by_cases hk32 : k < 32
                      · have i5 : (k : Int) < 32 := by omega
                        have hlx : xb.data.toList.length = 32 := by rw [← HXS.out]; exact HX.out
                        obtain ⟨b, hb⟩ : ∃ b, xb.data.toList[k]? = some b := ⟨_, List.getElem?_eq_getElem (by omega)⟩
                        have xk := fun w => run_idx (P := Tryz.prog) Tryz.underlying9 xb k b hb (k : Int) rfl .i64 w
                        have hb256 := UInt8.toNat_lt b
                        obtain ⟨⟨u, hu⟩, hfz, hset⟩ := ckAt_root hcr (by omega) k hk32 b
                        rw [root_step xb.data.toList st.2.2.1 k b hb (by omega)] at hset
                        have HSET := Lib.hid hset
                        have HRR := Lib.hid (hrr.set (Nat.le_refl (w.heap.size + 2)) (2 + k) (.int .u8 (b.toNat : Int)))
                        have hs5 : (wr.setCell ⟨w.heap.size + 2, 2 + k, none⟩ (.int .u8 (b.toNat : Int))).heap.size = wr.heap.size := by simp
                        have HZ := Lib.hid hs5
                        clear hset hrr hcr hb hs5 hlx
                        go_wp2_with fail
                        go_roundw
                        case rel => exact ⟨k + 1, by omega, by go_num, HRR.out, HSET.out, by rw [HZ.out]; omega⟩
                        case measure => simp [intOf]; omega
                      · obtain rfl : k = 32 := by omega
                        have hlx : xb.data.toList.length = 32 := by rw [← HXS.out]; exact HX.out
                        rw [List.take_of_length_le (by omega), List.drop_eq_nil_of_le (by omega), List.append_nil] at hcr
                        have HRR := Lib.hid hrr
                        have HCR := Lib.hid hcr
                        clear hlx hrr hcr
                        go_wp2_with fail
                        go_meet
                        exact rp_yes (HYES.out (by simp)) HS2.out HRR.out HCR.out hsr hia hLi HL3.out
                  · have g3 : ((xb.size : Int) == 32) = false := by rw [beq_eq_false_iff_ne]; omega
                    have hs := HST.out
                    rw [if_neg (fun h => hN (by rw [HXS.out]; exact h.2))] at hs
                    have HS2 := Lib.hid hs
                    clear hc hs hN
                    go_wp2_with fail
                    go_meet
                    exact rp_no (HYES.out (by simp)) HS2.out HR4.out
                · have g1 := HCZ.out.2 hc
                  have hs := HST.out
                  rw [if_neg (fun h => hc h.1)] at hs
                  have HS2 := Lib.hid hs
                  clear hc hs
                  go_wp2_with fail
                  go_meet
                  exact rp_no (HYES.out (by simp)) HS2.out HR4.out
            · have k0 : ((i : Int) == 0) = false := by rw [beq_eq_false_iff_ne]; omega
              have k1 : ((i : Int) == 1) = false := by rw [beq_eq_false_iff_ne]; omega
              have k2 : ((i : Int) == 2) = false := by rw [beq_eq_false_iff_ne]; omega
              have hst : ckStep i t.data.toList st = if t.data.toList ≠ [] ∧ plainOf t.data.toList = true ∧ i < 19 then some (st.1, st.2.1, st.2.2.1, st.2.2.2 ++ [t.data.toList]) else none := by
                unfold ckStep
                rw [if_neg (by omega), if_neg (by omega), if_neg (by omega)]
              have HST := Lib.hid hst
              clear hst
              obtain ⟨bb, hbb⟩ : ∃ bb, (okb && (ckStep i t.data.toList st).isSome) = bb := ⟨_, rfl⟩
              have HBB := Lib.hid hbb
              clear hbb
              go_upto_region 9 with fail
              go_cut [8] (fun s8 wx => s8 = .bool bb ∧ Below wc.heap.size wc wx)
              case first =>
                have hb9 := HBB.out
                rw [HST.out] at hb9
                cases okb with
                | false =>
                  obtain rfl : bb = false := by rw [← hb9]; rfl
                  clear hb9
                  go_wp2_with fail
                  go_meet
                  exact ⟨rfl, Below.refl _ _⟩
                | true =>
                  by_cases h0 : t.size = 0
                  · have hl0 : t.toList = [] := by rw [ByteArray.toList_eq]; exact List.eq_nil_of_length_eq_zero (by rw [size_list]; exact h0)
                    have hres9 : (if t.data.toList ≠ [] ∧ plainOf t.data.toList = true ∧ i < 19 then some (st.1, st.2.1, st.2.2.1, st.2.2.2 ++ [t.data.toList]) else none).isSome = false := by
                      rw [if_neg (fun h => h.1 (List.eq_nil_of_length_eq_zero (by rw [size_list]; exact h0)))]; rfl
                    rw [hres9] at hb9
                    obtain rfl : bb = false := by rw [← hb9]; rfl
                    clear h0 hres9 hb9
                    go_wp2_with fail
                    go_meet
                    exact ⟨rfl, Below.refl _ _⟩
                  · have hne : t.toList.isEmpty = false := by
                      rw [ByteArray.toList_eq]
                      cases hq : t.data.toList with
                      | nil => exact absurd (by rw [← size_list, hq]; rfl) h0
                      | cons _ _ => rfl
                    have hne2 : ¬ t.toList = [] := fun e => by rw [e] at hne; cases hne
                    have hne3 : t.data.toList ≠ [] := by rw [← ByteArray.toList_eq]; exact hne2
                    obtain ⟨pl, hpl⟩ : ∃ pl, plainOf t.data.toList = pl := ⟨_, rfl⟩
                    have HP := Lib.hid (refPlain_any t wc)
                    rw [hpl] at HP
                    have hres9 : (if t.data.toList ≠ [] ∧ plainOf t.data.toList = true ∧ i < 19 then some (st.1, st.2.1, st.2.2.1, st.2.2.2 ++ [t.data.toList]) else none).isSome = (pl && decide (i < 19)) := by
                      rw [hpl]
                      by_cases h : pl = true ∧ i < 19
                      · rw [if_pos ⟨hne3, h⟩]; simp [h.1, h.2]
                      · rw [if_neg (fun q => h q.2)]
                        cases pl with
                        | false => rfl
                        | true => simp at h; simp; omega
                    rw [hres9] at hb9
                    have HB9 := Lib.hid hb9
                    clear h0 hne3 hpl hres9 hb9
                    cases pl with
                    | false =>
                      obtain rfl : bb = false := by rw [← HB9.out]; rfl
                      go_wp2_with fail
                      refine HP.out.mono ?_
                      rintro e w3 ⟨rfl, b3⟩
                      go_wp2_with fail
                      go_meet
                      exact ⟨rfl, b3⟩
                    | true =>
                      go_wp2_with fail
                      refine HP.out.mono ?_
                      rintro e w3 ⟨rfl, b3⟩
                      by_cases h19 : i < 19
                      · have j19 : (i : Int) < 19 := by omega
                        obtain rfl : bb = true := by rw [← HB9.out]; simp [h19]
                        go_wp2_with fail
                        go_meet
                        exact ⟨rfl, b3⟩
                      · have j19 : ¬ (i : Int) < 19 := by omega
                        obtain rfl : bb = false := by rw [← HB9.out]; simp [h19]
                        go_wp2_with fail
                        go_meet
                        exact ⟨congrArg Value.bool (decide_eq_false (by omega)), b3⟩
              case rest =>
                rename World => wd
                obtain ⟨hs8, b5⟩ := hcut
                subst hs8
                obtain ⟨o, z, r, L⟩ := st
                obtain ⟨ev, hrow, hown, _⟩ := ckAt_below HCK.out b5
                have hown' : wd.ownsRow (w.heap.size + 3) 9 1 ev L.length ((L.map fun l => (⟨l.toArray⟩ : ByteArray)).map Value.string) := by
                  have h : wd.ownsRow (w.heap.size + 3) 9 1 ev _ _ := hown
                  rwa [List.length_map] at h
                obtain ⟨ao, cap, rfl⟩ := owns_slice hown'
                have z5 := b5.size
                have HR5 := Lib.hid (HRES.out.below b5)
                obtain ⟨_, _, c34, _⟩ := hrow.cells
                have b6 : Below wd.heap.size wd (wd.alloc (.cells #[.string t] 9)) := (Below.refl _ _).alloc (Nat.le_refl _) _
                have hnew : (wd.alloc (.cells #[.string t] 9)).cell? ⟨wd.heap.size, 0, none⟩ = some (.string t) := by
                  rw [cell_of_row _ _ 0 _ _ _ (heap_alloc_new wd _)]
                  rfl
                have hs6 : (wd.alloc (.cells #[.string t] 9)).heap.size = wd.heap.size + 1 := by simp
                have HO6 := Lib.hid (rowKeep hown' fun g hg => b6.block g ((hown'.lt g hg).2))
                have HR6 := Lib.hid (HR5.out.below b6)
                have HRW6 := Lib.hid (hrow.below b6)
                have HNEW := Lib.hid hnew
                clear b5 hrow hown hown' b6 hnew
                simp only [] at hLi
                go_wp2_with (at_builtin; refine wpList_append_one rfl (.tmp 50) (.tmp 52) rfl (B := w.heap.size + 3) (n := L.length) rfl HO6.out rfl HNEW.out (by omega) (by omega) ?_)
                intro v' W5 g1 g2 g3 g4
                obtain ⟨ao5, c5, rfl, ⟨u5, hu5⟩, hf5, hr5, hck5, hz5⟩ := ckAt_more (t := t) (v' := v') HR6.out rfl HRW6.out HO6.out (by omega) (by rw [List.map_map]; exact g1) g2
                have HR7 := Lib.hid hr5
                have HC7 := Lib.hid hck5
                clear g1 g2 g3 g4 hr5 hck5
                go_wp2_with fail
                go_meet
                have hb9 := HBB.out
                cases okb with
                | false =>
                  obtain rfl : bb = false := by rw [← hb9]; rfl
                  exact ⟨HR7.out, .inl ⟨rfl, HNO.out (by simp)⟩⟩
                | true =>
                  rw [Bool.true_and] at hb9
                  have hst9 := HST.out
                  by_cases hc9 : t.data.toList ≠ [] ∧ plainOf t.data.toList = true ∧ i < 19
                  · rw [if_pos hc9] at hst9
                    rw [hst9] at hb9
                    obtain rfl : bb = true := by rw [← hb9]; rfl
                    exact rp_yes (HYES.out (by simp)) hst9 HR7.out HC7.out hz5 hia hLi HL3.out
                  · rw [if_neg hc9] at hst9
                    rw [hst9] at hb9
                    obtain rfl : bb = false := by rw [← hb9]; rfl
                    exact rp_no (HYES.out (by simp)) hst9 HR7.out
          case rest =>
            obtain ⟨hres5, hcut5⟩ := hcut
            rcases hcut5 with ⟨rfl, hbad⟩ | ⟨rfl, hrel5, hi5⟩
            · have HBAD := Lib.hid (show toldAt st0 (ckRun 0 st0 [] s.data.toList) = (st0, 3, some (i : Int)) by rw [hbad]; rfl)
              have HR5 := Lib.hid hres5
              have HP := Lib.hid fun W => faultPlaced_any 3 (i : Int) W
              clear hbad hres5
              go_wp2_with fail
              refine (HP.out _).mono ?_
              rintro e w6 ⟨rfl, b6⟩
              have hr6 := HR5.out.below b6
              have HR6 := Lib.hid hr6
              obtain ⟨q1, q2, q3, _⟩ := res_write hr6 ckZero 3 (i : Int)
              have Q1 := Lib.hid q1
              have Q2 := Lib.hid q2
              have Q3 := Lib.hid q3
              obtain ⟨c0, c1, f0, f1⟩ := (res_mid hr6 ckZero).cells
              clear hr6 q1 q2 q3 b6
              go_wp2_with (refine wpList_store_row rfl 27 (.tmp 2) (.tmp 117) rfl w.heap.size ckZero rfl rfl 27 ckZero HR6.out.ck zero_info rfl zero_one ?_)
              refine ret_ckf (by rfl) w.heap.size (w.heap.size + 1) ckZero 3 (i : Int) Q1.out rfl Q2.out (by rfl) (by rfl) (by rfl) ?_
              rw [HBAD.out]
              exact ⟨ckZero, rfl, Q3.out, fun _ => rfl, fun h => by cases h⟩
            · have HREL5 := Lib.hid hrel5
              clear hrel5
              go_wp2_with fail
              go_roundw
              case rel => exact HREL5.out
              case measure => simp [intOf]; omega
end Go.Proofs.YtjmgkallgflcdaaGreatDoor
