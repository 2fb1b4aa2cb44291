/-
  checkpoint.Parse by its contract (printed by wip/genparse.py).
-/
import Derived.Test.YtjmgkallgflcdaaGreatDoorCkTake
import Derived.Test.YtjmgkallgflcdaaGreatDoorCkP
import Derived.Laws.ResultCell
import Derived.Laws.Tables
import Derived.BigRegion
namespace Go.Proofs.YtjmgkallgflcdaaGreatDoor
open Go.RowKit

/-- The cells of a checkpoint that nobody has written. -/
def ckZero : Array Value := #[.string ⟨#[]⟩, .int .u64 0, .int .u8 0, .int .u8 0, .int .u8 0, .int .u8 0, .int .u8 0, .int .u8 0, .int .u8 0, .int .u8 0, .int .u8 0, .int .u8 0, .int .u8 0, .int .u8 0, .int .u8 0, .int .u8 0, .int .u8 0, .int .u8 0, .int .u8 0, .int .u8 0, .int .u8 0, .int .u8 0, .int .u8 0, .int .u8 0, .int .u8 0, .int .u8 0, .int .u8 0, .int .u8 0, .int .u8 0, .int .u8 0, .int .u8 0, .int .u8 0, .int .u8 0, .int .u8 0, .slice none 0 0]
theorem ckInfo : (Tryz.prog.info? 27).map (·.size) = some 35 := by kernel_rfl
def cW (w : World) : World := w.alloc (.cells ckZero 27)
/-- A whole row out of a cell, and a value. -/
theorem results_row_tmp {P : Program} {fn : Func} {u p : Tmp} {ty : TypeId} (h : fn.results = #[.cell p ty, .tmp u]) (tmps : Array Value) (w : World) (g : Nat) (t : TypeId) (cs : Array Value) (fr : Nat × Nat) (d : TypeDesc)
    (hp : tmps.getD p undef = .pointer (some ⟨g, 0, none⟩)) (hg : w.heap[g]? = some (.cells cs t fr))
    (hu : P.underlying ty = some d) (hd : (match d with | .struct _ | .array _ _ => true | _ => false) = true) (hi : (P.info? ty).map (·.size) = some cs.size) :
    (results fn tmps).run P w = .ok (.tuple #[.agg cs, tmps.getD u undef]) w := by
  have hp' : tmps[p]?.getD undef = .pointer (some ⟨g, 0, none⟩) := by simpa using hp
  simp [results, h, hp', asAddr, run_loadVar_row w g t ty cs fr d hg hu hd hi, Result.andThen]
theorem ret_ck {fn : Func} {u p : Tmp} (hf : fn.results = #[.cell p 27, .tmp u]) {Q : Ending → World → Prop} {a : Act} {w : World} (g : Nat) (cs : Array Value) (v : Value)
    (hg : w.heap[g]? = some (.cells cs 27 (0, 0))) (hcs : cs.size = 35) (hd : a.defers = []) (hp : a.tmps.getD p undef = .pointer (some ⟨g, 0, none⟩)) (hv : a.tmps.getD u undef = v) (hQ : Q (.returned (.tuple #[.agg cs, v])) w) : bodyPost Tryz.prog fn Q .ret a w := by
  refine bodyPost_ret (v := .tuple #[.agg cs, v]) ?_ hd hQ
  rw [← hv]
  exact results_row_tmp hf _ _ g 27 _ (0, 0) _ hp hg Tryz.underlying27 rfl (by rw [hcs]; exact ckInfo)
theorem zero_lit : (#[.string ⟨#[]⟩, .int .u64 0, .int .u8 0, .int .u8 0, .int .u8 0, .int .u8 0, .int .u8 0, .int .u8 0, .int .u8 0, .int .u8 0, .int .u8 0, .int .u8 0, .int .u8 0, .int .u8 0, .int .u8 0, .int .u8 0, .int .u8 0, .int .u8 0, .int .u8 0, .int .u8 0, .int .u8 0, .int .u8 0, .int .u8 0, .int .u8 0, .int .u8 0, .int .u8 0, .int .u8 0, .int .u8 0, .int .u8 0, .int .u8 0, .int .u8 0, .int .u8 0, .int .u8 0, .int .u8 0, .slice none 0 0] : Array Value) = ckZero := rfl
theorem zero_size : ckZero.size = 35 := rfl
theorem zero_one : ckZero.all (·.oneCell') = true := by kernel_rfl
theorem zero_info : (Tryz.prog.info? 27).map (·.size) = some ckZero.size := ckInfo
/-- A checkpoint in memory. -/
def CkAt (W : World) (cb B : Nat) (st : CkSt) : Prop :=
  ∃ ev, CkRow W cb ⟨st.1.toArray⟩ (st.2.1 : Int) (Lib.byteCells st.2.2.1) ev ∧ Owns B W ev (st.2.2.2.map fun l => ⟨l.toArray⟩) ∧ (st.2.2.2 = [] → ev = .slice none 0 0)
theorem owns_nil (B : Nat) (W : World) : Owns B W (.slice none 0 0) [] := World.ownsRow_nil _ _ _ _
theorem ba_back (s : ByteArray) : (⟨s.data.toList.toArray⟩ : ByteArray) = s := by cases s; simp
theorem ck_root {W : World} {cb B : Nat} {st : CkSt} (h : CkAt W cb B st) : st.2.2.1.length = 32 := by
  obtain ⟨_, h, _⟩ := h
  have := h.1
  rwa [Lib.byteCells_length] at this
/-- take: a step of the plain run. -/
theorem take_any (S : Nat → Addr) (w0 W : World) (cb B : Nat) (k : Nat) (s : ByteArray) (st : CkSt) (hBW : B ≤ W.heap.size) (hcB : cb < B) (hk2 : k ≤ 2000000) (hB : Base S w0) (hbel : Below w0.heap.size w0 W) (hcb : w0.heap.size ≤ cb) (hst : CkAt W cb B st) (hkL : k < 3 → st.2.2.2 = []) (hL : st.2.2.2.length ≤ 2000000) (hs : s.size ≤ 9223372036854775807) :
    Calls Tryz.prog 43 #[.pointer (some ⟨cb, 0, none⟩), .int .i64 (k : Int), .string s] W fun e W' => e = .returned (.bool (ckStep k s.data.toList st).isSome) ∧ Below w0.heap.size w0 W' ∧ Keeps B cb W W' ∧
      ∀ st', ckStep k s.data.toList st = some st' → CkAt W' cb B st' := by
  obtain ⟨ev, hrow, hown, hnil⟩ := hst
  obtain ⟨o, z, root, L⟩ := st
  simp only at hrow hown hnil hkL hL
  rcases (show k = 0 ∨ k = 1 ∨ k = 2 ∨ 3 ≤ k by omega) with rfl | rfl | rfl | hk
  · obtain rfl := hkL (by omega)
    obtain rfl := hnil rfl
    refine (take_0 S w0 W cb B hBW _ s _ _ _ hB hbel hcb hrow hs).mono ?_
    rintro e W' ⟨rfl, hb, hr, hk⟩
    unfold ckStep
    rw [if_pos rfl]
    cases hn : nameOf s.data.toList with
    | true =>
      refine ⟨by rw [if_pos rfl]; rfl, hb, hk, fun st' h => ?_⟩
      rw [if_pos rfl] at h
      obtain rfl := Option.some.inj h
      exact ⟨_, by rw [ba_back]; exact hr, owns_nil _ _, fun _ => rfl⟩
    | false =>
      refine ⟨by rw [if_neg (by simp)]; rfl, hb, hk, fun st' h => ?_⟩
      rw [if_neg (by simp)] at h; cases h
  · obtain rfl := hkL (by omega)
    obtain rfl := hnil rfl
    refine (take_1 S w0 W cb B hBW _ s _ _ _ hB hbel hcb hrow hs).mono ?_
    rintro e W' ⟨rfl, hb, hr, hk⟩
    unfold ckStep
    rw [if_neg (by omega), if_pos rfl]
    by_cases hn : (fromDec s.data.toList).2.1 = 0 ∧ (fromDec s.data.toList).1 ≤ 1048576
    · refine ⟨by rw [if_pos hn, decide_eq_true hn.1, decide_eq_true hn.2]; rfl, hb, hk, fun st' h => ?_⟩
      rw [if_pos hn] at h
      obtain rfl := Option.some.inj h
      exact ⟨_, hr, owns_nil _ _, fun _ => rfl⟩
    · refine ⟨?_, hb, hk, fun st' h => by rw [if_neg hn] at h; cases h⟩
      rw [if_neg hn]
      refine ret_bool ?_
      rcases Classical.not_and_iff_not_or_not.1 hn with h | h
      · rw [decide_eq_false h]; rfl
      · rw [decide_eq_false h, Bool.and_false]; rfl
  · obtain rfl := hkL (by omega)
    obtain rfl := hnil rfl
    refine (take_2 S w0 W cb B hBW _ s _ _ _ hB hbel hcb hrow hs).mono ?_
    rintro e W' ⟨rfl, hb, ⟨root', h32, hr⟩, hk⟩
    unfold ckStep
    rw [if_neg (by omega), if_neg (by omega), if_pos rfl]
    by_cases hn : (fromB64 s.data.toList).2.1 = 0 ∧ (fromB64 s.data.toList).1.length = 32
    · refine ⟨by rw [if_pos hn, decide_eq_true hn.1, decide_eq_true hn.2]; rfl, hb, hk, fun st' h => ?_⟩
      rw [if_pos hn] at h
      obtain rfl := Option.some.inj h
      exact ⟨_, by rw [← h32 hn.2]; exact hr, owns_nil _ _, fun _ => rfl⟩
    · refine ⟨?_, hb, hk, fun st' h => by rw [if_neg hn] at h; cases h⟩
      rw [if_neg hn]
      refine ret_bool ?_
      rcases Classical.not_and_iff_not_or_not.1 hn with h | h
      · rw [decide_eq_false h]; rfl
      · rw [decide_eq_false h, Bool.and_false]; rfl
  · refine (take_3 S w0 W cb B hBW hcB k _ s _ _ ev _ hk hk2 hB hbel hcb hrow hown (by simpa using hL) hs).mono ?_
    rintro e W' ⟨rfl, hb, ⟨ev', hr, ho⟩, hkp⟩
    have hsz : s.size ≠ 0 ↔ s.data.toList ≠ [] := by
      rw [← size_list]
      exact ⟨fun h e => h (by rw [e]; rfl), fun h e => h (List.eq_nil_of_length_eq_zero e)⟩
    unfold ckStep
    rw [if_neg (by omega), if_neg (by omega), if_neg (by omega)]
    by_cases hn : s.data.toList ≠ [] ∧ plainOf s.data.toList = true ∧ k < 19
    · refine ⟨by rw [if_pos hn, decide_eq_true (hsz.2 hn.1), hn.2.1, decide_eq_true hn.2.2]; rfl, hb, hkp, fun st' h => ?_⟩
      rw [if_pos hn] at h
      obtain rfl := Option.some.inj h
      refine ⟨ev', hr, ?_, fun h => by simp at h⟩
      simp only [List.map_append, List.map_cons, List.map_nil, ba_back]
      exact ho
    · refine ⟨?_, hb, hkp, fun st' h => by rw [if_neg hn] at h; cases h⟩
      rw [if_neg hn]
      refine ret_bool ?_
      by_cases h1 : s.size ≠ 0
      · cases h2 : plainOf s.data.toList with
        | false => rw [Bool.and_false]; rfl
        | true => rw [decide_eq_false (fun h3 => hn ⟨hsz.1 h1, h2, h3⟩), Bool.and_false]; rfl
      · rw [decide_eq_false h1]; rfl

def pW (s : ByteArray) (w : World) : World := ((w.alloc (.cells ckZero 27)).alloc (.cells ckZero 27)).alloc (.stringIter s 0)
theorem pW_size (s : ByteArray) (w : World) : (pW s w).heap.size = w.heap.size + 3 := by simp [pW]
/-- What the loop over the text's runes knows. -/
def ParseRel (s : ByteArray) (w : World) (vn va : Value) (wr : World) : Prop :=
  ∃ (pos a k : Nat) (st : CkSt), vn = .int .i64 k ∧ va = .int .i64 a ∧ wr.heap[w.heap.size + 2]? = some (.stringIter s pos) ∧ wr.heap[w.heap.size]? = some (.cells ckZero 27 (0, 0)) ∧ CkAt wr (w.heap.size + 1) (w.heap.size + 3) st ∧
    w.heap.size + 3 ≤ wr.heap.size ∧ Below w.heap.size w wr ∧ a ≤ pos ∧ pos ≤ s.size ∧ k ≤ a ∧ st.2.2.2.length ≤ k ∧ (k < 3 → st.2.2.2 = []) ∧ ckRun 0 st0 [] s.data.toList = ckRun k st ((s.data.toList.drop a).take (pos - a)) (s.data.toList.drop pos)
/-- A checkpoint's value. -/
def CkVal (B : Nat) (W : World) (cs : Array Value) (st : CkSt) : Prop :=
  ∃ ev, st.2.2.1.length = 32 ∧ cs = (ckList ⟨st.1.toArray⟩ (st.2.1 : Int) (Lib.byteCells st.2.2.1) ev).toArray ∧ Owns B W ev (st.2.2.2.map fun l => ⟨l.toArray⟩) ∧ (st.2.2.2 = [] → ev = .slice none 0 0)
def ParsePost (S : Nat → Addr) (w : World) (A : CkSt × Nat × Option Int) (e : Ending) (w' : World) : Prop :=
  ∃ cs ev, e = .returned (.tuple #[.agg cs, ev]) ∧ Below w.heap.size w w' ∧ ErrAt S w' ev A.2.1 A.2.2 ∧ (A.2.1 ≠ 0 → cs = ckZero) ∧ (A.2.1 = 0 → CkVal w.heap.size w' cs A.1)
theorem ckWrong_any (S : Nat → Addr) (z : Int) (w : World) (hB : Base S w) :
    Calls Tryz.prog 44 #[.int .i64 z] w fun e w' => e = .returned (.iface 116 (.pointer (some ⟨w.heap.size, 0, none⟩))) ∧ w.alloc (.cells #[errV S 3, .int .i64 z] 118) = w' := by
  have g := hB.var 3 (by omega) (by omega)
  simp only [errG, errV] at g ⊢
  clear hB
  go_enter Tryz.func44, Tryz.ntmps44
  go_wp2
  go_ret
  exact ⟨rfl, rfl⟩
/-- The end of a text that is refused at a line. -/
theorem wrong_post (S : Nat → Addr) (w w3 : World) (k : Nat) (hb : Below w.heap.size w w3) (hres : w3.heap[w.heap.size]? = some (.cells ckZero 27 (0, 0))) :
    ((w3.alloc (.cells #[errV S 3, .int .i64 (k : Int)] 118)).setRow w.heap.size ckZero).heap[w.heap.size]? = some (.cells ckZero 27 (0, 0)) ∧
    ParsePost S w (st0, 3, some (k : Int)) (.returned (.tuple #[.agg ckZero, .iface 116 (.pointer (some ⟨w3.heap.size, 0, none⟩))])) ((w3.alloc (.cells #[errV S 3, .int .i64 (k : Int)] 118)).setRow w.heap.size ckZero) := by
  have hlt := lt_of_heap hres
  have h1 : (w3.alloc (.cells #[errV S 3, .int .i64 (k : Int)] 118)).heap[w.heap.size]? = some (.cells ckZero 27 (0, 0)) := (heap_alloc_old _ _ hlt).trans hres
  refine ⟨setRow_heap _ _ _ _ _ _ h1, _, _, rfl, below_setRow (hb.alloc hb.size _) (Nat.le_refl _) _, .inr (.inr ⟨(by decide : 1 ≤ 3), (by decide : 3 ≤ 16), w3.heap.size, k, rfl, ?_, rfl⟩), fun _ => rfl, fun h => by cases h⟩
  exact (setRow_other _ _ _ _ (by omega)).trans (heap_alloc_new w3 _)
theorem ck_iter {wr : World} {cb B k pos : Nat} {s : ByteArray} {st : CkSt} (h : CkAt wr cb B st) (hc : cb ≠ k) (hk : k < B) : CkAt (wr.iterAt k s pos) cb B st := by
  obtain ⟨ev, hr, ho, hn⟩ := h
  have ho' : wr.ownsRow B 9 1 ev _ _ := ho
  refine ⟨ev, hr.keep (Lib.iterAt_other wr k cb s pos hc), owns_keep ho' (fun g hg => Lib.iterAt_other wr k g s pos (by have := (ho'.lt g hg).1; omega)), hn⟩

set_option maxHeartbeats 2000000 in
set_option maxRecDepth 100000 in
theorem parse_any (S : Nat → Addr) (s : ByteArray) (w : World) (hs : s.size ≤ 1048576) (hB : Base S w) :
    Calls Tryz.prog 15 #[.string s] w fun e w' => ParsePost S w (parseCk s.data.toList) e w' := by
  have HS := Lib.hid (size_list s)
  have hr : parseCk s.data.toList = toldAt st0 (ckRun 0 st0 [] s.data.toList) := by unfold parseCk; rw [if_neg (by rw [HS.out]; omega)]
  rw [hr]
  have HB := Lib.hid hB
  clear hr hB
  go_enter Tryz.func15, Tryz.ntmps15
  go_wp2_with fail
  rw [zero_lit]
  go_loopw [5, 6] (fun vn va wr => ParseRel s w vn va wr) (fun _ _ wr => s.size - wr.iterPos (w.heap.size + 2))
  case atStart =>
    have e1 : ((w.alloc (.cells ckZero 27)).alloc (.cells ckZero 27)).heap.size = w.heap.size + 2 := by simp
    refine ⟨0, 0, 0, st0, rfl, rfl, by rw [← e1]; exact World.iter_heap _ s 0, ?_, ⟨.slice none 0 0, ⟨by simp [st0, Lib.byteCells], ?_⟩, owns_nil _ _, fun _ => rfl⟩, ?_, ?_, by omega, by omega, by omega, by simp [st0], fun _ => rfl, rfl⟩
    · exact (heap_alloc_old _ _ (by simp; omega)).trans ((heap_alloc_old _ _ (by simp)).trans (heap_alloc_new w _))
    · refine (heap_alloc_old _ _ (by simp)).trans ?_
      have := heap_alloc_new (w.alloc (.cells ckZero 27)) (.cells ckZero 27)
      rw [show (w.alloc (.cells ckZero 27)).heap.size = w.heap.size + 1 by simp] at this
      exact this
    · show w.heap.size + 3 ≤ (((w.alloc (.cells ckZero 27)).alloc (.cells ckZero 27)).alloc (.stringIter s 0)).heap.size
      simp
    · exact (((Below.refl _ _).alloc (Nat.le_refl _) _).alloc (by simp) _).alloc (by simp; omega) _
  case round =>
    obtain ⟨pos, a, k, st, rfl, rfl, hit, hres, hck, hsz, hbel, hap, hps, hka, hLk, hkL, hrun⟩ := hrel
    have HRUN := Lib.hid hrun
    have HKL := Lib.hid hkL
    clear hrun hkL
    by_cases hp : pos < s.size
    · have hnx : ∀ ty, (Instr.next (.pointer (some ⟨w.heap.size + 2, 0, none⟩)) true ty).run Tryz.prog wr = _ := fun ty => Lib.run_next_any_at wr (w.heap.size + 2) s pos ty hit hp
      have hne : s.data.toList.drop pos ≠ [] := fun e => by
        have := congrArg List.length e
        rw [List.length_drop, size_list] at this; simp at this; omega
      have hrne := rune_ne _ hne
      have hreq := rune_eq _ hne
      have hwd := Lib.decodeL_width (s.data.toList.drop pos)
      rw [Lib.decodeL_drop] at hwd hrne hreq
      have hwl := Lib.decodeL_le _ hne
      rw [Lib.decodeL_drop, List.length_drop, size_list] at hwl
      have hit2 := Lib.iterAt_heap wr (w.heap.size + 2) s pos (pos + (Utf8.decode s pos).2) hit
      have hres2 := (Lib.iterAt_other wr (w.heap.size + 2) w.heap.size s (pos + (Utf8.decode s pos).2) (by omega)).trans hres
      have hck2 := ck_iter (pos := pos + (Utf8.decode s pos).2) (s := s) hck (show w.heap.size + 1 ≠ w.heap.size + 2 by omega) (by omega)
      have hbw2 := Lib.below_iterAt hbel (k := w.heap.size + 2) (by omega) s (pos + (Utf8.decode s pos).2)
      have hsz2 : w.heap.size + 3 ≤ (wr.iterAt (w.heap.size + 2) s (pos + (Utf8.decode s pos).2)).heap.size := by rw [Lib.iterAt_size]; exact hsz
      have hms : wr.iterPos (w.heap.size + 2) = pos := by simp only [World.iterPos, hit]
      generalize (Utf8.decode s pos).2 = wd at *
      generalize (Utf8.decode s pos).1 = R at *
      generalize hW2 : wr.iterAt (w.heap.size + 2) s (pos + wd) = W2 at *
      have HIT := Lib.hid hit2
      have HRES := Lib.hid hres2
      have HCK := Lib.hid hck2
      have HMS := Lib.hid hms
      have HRN := Lib.hid hrne
      have HRQ := Lib.hid hreq
      clear hit hit2 hres hres2 hck hck2 hms hne hrne hreq hW2
      by_cases h10 : R = 10
      · obtain ⟨m, hm, hw1⟩ := HRQ.out h10
        subst hw1
        have h10' : ((R : Int) != 10) = false := by rw [h10]; rfl
        have hd : s.data.toList.drop pos = 10 :: s.data.toList.drop (pos + 1) := by rw [← List.drop_drop, hm]; rfl
        have hline : (s.extract a pos).data.toList = (s.data.toList.drop a).take (pos - a) := by simp [List.extract_eq_take_drop]
        have hlsz : (s.extract a pos).size ≤ s.size := by rw [← size_list, hline, List.length_take, List.length_drop, HS.out]; omega
        have hrun := HRUN.out
        rw [hd, ckRun_line, ← hline] at hrun
        have HRUN2 := Lib.hid hrun
        have hpa1 : (a : Int) ≤ (pos : Int) := by omega
        have hpa2 : (pos : Int) ≤ (s.size : Int) := by omega
        have HT := Lib.hid (take_any S w W2 (w.heap.size + 1) (w.heap.size + 3) k (s.extract a pos) st hsz2 (by omega) (by omega) HB.out hbw2 (by omega) HCK.out HKL.out (by omega) (by omega))
        clear hm hd hline hrun h10
        cases hstp : ckStep k (s.extract a pos).data.toList st with
        | none =>
          rw [hstp] at HT HRUN2
          have HSTP := Lib.hid hstp
          clear hstp
          go_wp2_with fail
          refine HT.out.mono ?_
          rintro e w3 ⟨rfl, b3, kp3, _⟩
          simp only [Option.isSome_none]
          have hres3 := (kp3.2 _ (by omega) (by omega)).trans HRES.out
          have HW := Lib.hid (ckWrong_any S (k : Int) w3 (HB.out.below b3))
          obtain ⟨hfin, hpost⟩ := wrong_post S w w3 k b3 hres3
          have hres4 := (heap_alloc_old w3 (.cells #[errV S 3, .int .i64 (k : Int)] 118) (lt_of_heap hres3)).trans hres3
          have HFIN := Lib.hid hfin
          have HPOST := Lib.hid hpost
          have HR4 := Lib.hid hres4
          clear hres3 hfin hpost hres4
          have HA := Lib.hid (show toldAt st0 (ckRun 0 st0 [] s.data.toList) = (st0, 3, some (k : Int)) by rw [HRUN2.out]; rfl)
          go_wp2_with (first | (go_at_call 44; refine HW.out.mono ?_; rintro e w4 ⟨rfl, rfl⟩) | (refine wpList_store_row rfl 27 (.tmp 2) (.tmp 29) rfl w.heap.size ckZero rfl rfl 27 ckZero HR4.out zero_info rfl zero_one ?_))
          refine ret_ck (by rfl) w.heap.size ckZero _ HFIN.out rfl (by rfl) (by rfl) (by rfl) ?_
          rw [HA.out]
          exact HPOST.out
        | some st' =>
          rw [hstp] at HT HRUN2
          have HSTP := Lib.hid hstp
          clear hstp
          go_wp2_with fail
          refine HT.out.mono ?_
          rintro e w3 ⟨rfl, b3, kp3, hck3⟩
          have HCK3 := Lib.hid (hck3 st' rfl)
          clear hck3
          simp only [Option.isSome_some]
          have hit3 : w3.heap[w.heap.size + 2]? = some (.stringIter s (pos + 1)) := (kp3.2 _ (by omega) (by omega)).trans HIT.out
          have hres3 := (kp3.2 _ (by omega) (by omega)).trans HRES.out
          go_wp2_with fail
          go_roundw
          case rel => exact ⟨pos + 1, pos + 1, k + 1, st', by go_num, by go_num, hit3, hres3, HCK3.out, by have := kp3.1; omega, b3, by omega, by omega, by omega, by have := ckStep_len HSTP.out; omega, fun h => by rw [ckStep_nil HSTP.out (by omega)]; exact HKL.out (by omega), by rw [Nat.sub_self, List.take_zero]; exact HRUN2.out⟩
          case measure =>
            rw [HMS.out]
            simp only [World.iterPos, hit3]
            omega
      · have h10' : ((R : Int) != 10) = true := by rw [bne_iff_ne]; omega
        have hskip := ckRun_skip k st ((s.data.toList.drop pos).take wd) ((s.data.toList.drop pos).drop wd) ((s.data.toList.drop a).take (pos - a)) (HRN.out h10)
        rw [List.take_append_drop, List.drop_drop] at hskip
        have htk : (s.data.toList.drop a).take (pos - a) ++ (s.data.toList.drop pos).take wd = (s.data.toList.drop a).take (pos + wd - a) := by
          rw [show pos + wd - a = (pos - a) + wd by omega, List.take_add, List.drop_drop, show a + (pos - a) = pos by omega]
        rw [htk, ← HRUN.out] at hskip
        have HSK := Lib.hid hskip
        clear hskip htk h10
        go_wp2_with fail
        go_roundw
        case rel => exact ⟨pos + wd, a, k, st, rfl, rfl, HIT.out, HRES.out, HCK.out, hsz2, hbw2, by omega, by omega, hka, hLk, HKL.out, HSK.out⟩
        case measure =>
          rw [HMS.out]
          simp only [World.iterPos, HIT.out]
          omega
    · have hnx : ∀ ty, (Instr.next (.pointer (some ⟨w.heap.size + 2, 0, none⟩)) true ty).run Tryz.prog wr = _ := fun ty => Lib.run_next_end_at wr (w.heap.size + 2) s pos ty hit hp
      have hrun := HRUN.out
      have hpe : pos = s.size := by omega
      have hdn : s.data.toList.drop pos = [] := List.drop_eq_nil_of_le (by rw [HS.out]; omega)
      rw [hdn, hpe] at hrun
      have HBEL := Lib.hid hbel
      have hacc : (s.data.toList.drop a).take (s.size - a) ≠ [] ↔ a < s.size := by
        have hl : ((s.data.toList.drop a).take (s.size - a)).length = s.size - a := by rw [List.length_take, List.length_drop, HS.out]; omega
        exact ⟨fun h => by have := List.length_pos_iff.2 h; omega, fun h e => by rw [e] at hl; simp at hl; omega⟩
      have hrun2 : ckRun 0 st0 [] s.data.toList = if k < 3 ∨ a < s.size then .error k else .ok st := by
        rw [hrun]
        show (if k < 3 ∨ (s.data.toList.drop a).take (s.size - a) ≠ [] then Except.error k else Except.ok st) = _
        simp only [ne_eq] at hacc ⊢
        by_cases hx : a < s.size
        · rw [if_pos (.inr (hacc.2 hx)), if_pos (.inr hx)]
        · have hy : ¬ ¬ (s.data.toList.drop a).take (s.size - a) = [] := fun h => hx (hacc.1 h)
          by_cases hz : k < 3
          · rw [if_pos (.inl hz), if_pos (.inl hz)]
          · rw [if_neg (fun h => h.elim hz hy), if_neg (fun h => h.elim hz hx)]
      have HRUN2 := Lib.hid hrun2
      have HRES := Lib.hid hres
      have HCK := Lib.hid hck
      have HW := Lib.hid (ckWrong_any S (k : Int) wr (HB.out.below hbel))
      clear hit hrun hacc hrun2 hres hck HRUN
      by_cases hk3 : k < 3
      · have hk3' : (k : Int) < 3 := by omega
        have HA := Lib.hid (show toldAt st0 (ckRun 0 st0 [] s.data.toList) = (st0, 3, some (k : Int)) by rw [HRUN2.out, if_pos (.inl hk3)]; rfl)
        obtain ⟨hfin, hpost⟩ := wrong_post S w wr k hbel HRES.out
        have hres4 := (heap_alloc_old wr (.cells #[errV S 3, .int .i64 (k : Int)] 118) (lt_of_heap HRES.out)).trans HRES.out
        have HFIN := Lib.hid hfin
        have HPOST := Lib.hid hpost
        have HR4 := Lib.hid hres4
        clear hfin hpost hres4
        go_wp2_with (first | (go_at_call 44; refine HW.out.mono ?_; rintro e w4 ⟨rfl, rfl⟩) | (refine wpList_store_row rfl 27 (.tmp 2) (.tmp 44) rfl w.heap.size ckZero rfl rfl 27 ckZero HR4.out zero_info rfl zero_one ?_))
        refine ret_ck (by rfl) w.heap.size ckZero _ HFIN.out rfl (by rfl) (by rfl) (by rfl) ?_
        rw [HA.out]
        exact HPOST.out
      · have hk3' : ¬ (k : Int) < 3 := by omega
        by_cases ha : a < s.size
        · have ha' : (a : Int) < (s.size : Int) := by omega
          have HA := Lib.hid (show toldAt st0 (ckRun 0 st0 [] s.data.toList) = (st0, 3, some (k : Int)) by rw [HRUN2.out, if_pos (.inr ha)]; rfl)
          obtain ⟨hfin, hpost⟩ := wrong_post S w wr k hbel HRES.out
          have hres4 := (heap_alloc_old wr (.cells #[errV S 3, .int .i64 (k : Int)] 118) (lt_of_heap HRES.out)).trans HRES.out
          have HFIN := Lib.hid hfin
          have HPOST := Lib.hid hpost
          have HR4 := Lib.hid hres4
          clear hfin hpost hres4
          go_wp2_with (first | (go_at_call 44; refine HW.out.mono ?_; rintro e w4 ⟨rfl, rfl⟩) | (refine wpList_store_row rfl 27 (.tmp 2) (.tmp 44) rfl w.heap.size ckZero rfl rfl 27 ckZero HR4.out zero_info rfl zero_one ?_))
          refine ret_ck (by rfl) w.heap.size ckZero _ HFIN.out rfl (by rfl) (by rfl) (by rfl) ?_
          rw [HA.out]
          exact HPOST.out
        · have ha' : ¬ (a : Int) < (s.size : Int) := by omega
          have HA := Lib.hid (show toldAt st0 (ckRun 0 st0 [] s.data.toList) = (st, 0, none) by rw [HRUN2.out, if_neg (by omega)]; rfl)
          obtain ⟨ev, hrow, hown, hnil⟩ := HCK.out
          have hc35 : (ckList ⟨st.1.toArray⟩ (st.2.1 : Int) (Lib.byteCells st.2.2.1) ev).toArray.size = 35 := by simp [ckList, hrow.1]
          have hone : (ckList ⟨st.1.toArray⟩ (st.2.1 : Int) (Lib.byteCells st.2.2.1) ev).toArray.all (·.oneCell') = true := by
            obtain ⟨ao, cap, rfl⟩ := owns_slice (hown : World.ownsRow _ _ _ _ _ _ _)
            rw [Array.all_eq_true_iff_forall_mem]
            intro v hv
            simp only [List.mem_toArray, ckList, List.mem_cons, List.mem_append, List.not_mem_nil, or_false] at hv
            rcases hv with rfl | rfl | hv | rfl
            · rfl
            · rfl
            · exact Lib.byteCells_one _ v hv
            · rfl
          have hok : ParsePost S w (st, 0, none) (.returned (.tuple #[.agg (ckList ⟨st.1.toArray⟩ (st.2.1 : Int) (Lib.byteCells st.2.2.1) ev).toArray, .nilIface])) (wr.setRow w.heap.size (ckList ⟨st.1.toArray⟩ (st.2.1 : Int) (Lib.byteCells st.2.2.1) ev).toArray) := by
            have hown' : wr.ownsRow (w.heap.size + 3) 9 1 ev _ _ := hown
            refine ⟨_, _, rfl, below_setRow hbel (Nat.le_refl _) _, ErrAt.nil S _, fun h => absurd rfl h, fun _ => ⟨ev, by have := hrow.1; rwa [Lib.byteCells_length] at this, rfl, ?_, hnil⟩⟩
            have h1 := owns_keep (w' := wr.setRow w.heap.size (ckList ⟨st.1.toArray⟩ (st.2.1 : Int) (Lib.byteCells st.2.2.1) ev).toArray) hown' (fun g hg => setRow_other wr w.heap.size g _ (by have := (hown'.lt g hg).1; omega))
            refine ⟨h1.1, ?_⟩
            rcases h1.2 with h' | ⟨g, cap, cur, h1', h2', h3'⟩
            · exact .inl h'
            · exact .inr ⟨g, cap, cur, h1', by omega, h3'⟩
          have hld := hrow.2
          generalize (ckList ⟨st.1.toArray⟩ (st.2.1 : Int) (Lib.byteCells st.2.2.1) ev).toArray = cs at *
          have HOK := Lib.hid hok
          have HLD := Lib.hid hld
          have HONE := Lib.hid hone
          have H35 := Lib.hid hc35
          have HFIN := Lib.hid (setRow_heap wr w.heap.size ckZero cs _ _ HRES.out)
          clear hok hld hone hc35 hrow hown hnil
          go_wp2_with (first | (refine wpList_load_row rfl 27 (.tmp 4) rfl (w.heap.size + 1) rfl 27 cs (0, 0) _ HLD.out Tryz.underlying27 rfl (by rw [H35.out]; exact ckInfo) ?_) | (refine wpList_store_row rfl 27 (.tmp 2) (.tmp 47) rfl w.heap.size cs rfl rfl 27 ckZero HRES.out (by rw [H35.out]; exact ckInfo) (by rw [H35.out]; rfl) HONE.out ?_))
          go_wp2_with fail
          refine ret_ck (by rfl) w.heap.size cs _ HFIN.out H35.out (by rfl) (by rfl) (by rfl) ?_
          rw [HA.out]
          exact HOK.out

end Go.Proofs.YtjmgkallgflcdaaGreatDoor
