/-
  cartularyref11.Parse by its contract.
-/
import Derived.Test.YtopilalefilkjaaGreatDoorTileRefN
import Derived.RegionTactic
import Derived.ChangeAlike
import Derived.BigRegion
import Derived.Deep.CutRange
import Derived.Deep.DeepCutAuto
import Derived.Outline
import Derived.IntWalk
namespace Go.Proofs.YtopilalefilkjaaGreatDoor
open Go.RowKit

def refParseV (l : List UInt8) : Value := match parseT l with
  | some (L, I, W) => .tuple #[.agg #[.int .u8 (L : Int), .int .u64 (I : Int), .int .i64 (W : Int)], .agg #[.int .i64 0, .int .i64 0]]
  | none => .tuple #[.agg #[.int .u8 0, .int .u64 0, .int .i64 0], .agg #[.int .i64 3, .int .i64 (-1)]]
theorem refParse_none {l : List UInt8} (h : parseT l = none) : refParseV l = .tuple #[.agg #[.int .u8 0, .int .u64 0, .int .i64 0], .agg #[.int .i64 3, .int .i64 (-1)]] := by unfold refParseV; rw [h]
theorem refParse_some {l : List UInt8} {L I W : Nat} (h : parseT l = some (L, I, W)) : refParseV l = .tuple #[.agg #[.int .u8 (L : Int), .int .u64 (I : Int), .int .i64 (W : Int)], .agg #[.int .i64 0, .int .i64 0]] := by unfold refParseV; rw [h]

theorem results_rows2T {P : Program} {fn : Func} {u p : Tmp} {ty ty2 : TypeId} (h : fn.results = #[.cell p ty, .cell u ty2]) (tmps : Array Value) (w : World) (g g2 : Nat) (t t2 : TypeId) (cs cs2 : Array Value) (fr fr2 : Nat × Nat) (d d2 : TypeDesc)
    (hp : tmps.getD p undef = .pointer (some ⟨g, 0, none⟩)) (hg : w.heap[g]? = some (.cells cs t fr)) (hp2 : tmps.getD u undef = .pointer (some ⟨g2, 0, none⟩)) (hg2 : w.heap[g2]? = some (.cells cs2 t2 fr2))
    (hu : P.underlying ty = some d) (hd : (match d with | .struct _ | .array _ _ => true | _ => false) = true) (hi : (P.info? ty).map (·.size) = some cs.size)
    (hu2 : P.underlying ty2 = some d2) (hd2 : (match d2 with | .struct _ | .array _ _ => true | _ => false) = true) (hi2 : (P.info? ty2).map (·.size) = some cs2.size) :
    (results fn tmps).run P w = .ok (.tuple #[.agg cs, .agg cs2]) w := by
  have hp' : tmps[p]?.getD undef = .pointer (some ⟨g, 0, none⟩) := by simpa using hp
  have hp2' : tmps[u]?.getD undef = .pointer (some ⟨g2, 0, none⟩) := by simpa using hp2
  simp [results, h, hp', hp2', asAddr, run_loadVar_row w g t ty cs fr d hg hu hd hi, run_loadVar_row w g2 t2 ty2 cs2 fr2 d2 hg2 hu2 hd2 hi2, Result.andThen]
theorem ret_tf {fn : Func} {u p : Tmp} (hf : fn.results = #[.cell p 24, .cell u 30]) {Q : Ending → World → Prop} {a : Act} {w : World} (g g2 : Nat) (L I W c z : Int)
    (hg : w.heap[g]? = some (.cells #[.int .u8 L, .int .u64 I, .int .i64 W] 24 (0, 0))) (hg2 : faultRow w g2 c z) (hd : a.defers = []) (hp : a.tmps.getD p undef = .pointer (some ⟨g, 0, none⟩)) (hv : a.tmps.getD u undef = .pointer (some ⟨g2, 0, none⟩))
    (hQ : Q (.returned (.tuple #[.agg #[.int .u8 L, .int .u64 I, .int .i64 W], .agg #[.int .i64 c, .int .i64 z]])) w) : bodyPost Tryz.prog fn Q .ret a w := by
  refine bodyPost_ret (v := .tuple #[.agg #[.int .u8 L, .int .u64 I, .int .i64 W], .agg #[.int .i64 c, .int .i64 z]]) ?_ hd hQ
  exact results_rows2T hf _ _ g g2 24 30 _ _ (0, 0) (0, 0) _ _ hp hg hv hg2 Tryz.underlying24 rfl tileInfo Tryz.underlying30 rfl faultInfo
/-- Both results are written: the tile first. -/
theorem tf_write {W : World} {A : Nat} {x0 y0 z0 : Value} {a b : Int} (hA : W.heap[A]? = some (.cells #[x0, y0, z0] 24)) (hF : faultRow W (A + 1) a b) (x y z : Value) (c d : Int) :
    (((((W.setCell ⟨A, 0, none⟩ x).setCell ⟨A, 1, none⟩ y).setCell ⟨A, 2, none⟩ z).setCell ⟨A + 1, 0, none⟩ (.int .i64 c)).setCell ⟨A + 1, 1, none⟩ (.int .i64 d)).heap[A]? = some (.cells #[x, y, z] 24) ∧
    faultRow (((((W.setCell ⟨A, 0, none⟩ x).setCell ⟨A, 1, none⟩ y).setCell ⟨A, 2, none⟩ z).setCell ⟨A + 1, 0, none⟩ (.int .i64 c)).setCell ⟨A + 1, 1, none⟩ (.int .i64 d)) (A + 1) c d := by
  have h1 := set3_heap (x := x) (y := y) (z := z) hA
  have h2 : faultRow (((W.setCell ⟨A, 0, none⟩ x).setCell ⟨A, 1, none⟩ y).setCell ⟨A, 2, none⟩ z) (A + 1) a b := by
    unfold faultRow
    rw [heap_setCell_other _ _ _ _ (show A + 1 ≠ A by omega), heap_setCell_other _ _ _ _ (show A + 1 ≠ A by omega), heap_setCell_other _ _ _ _ (show A + 1 ≠ A by omega)]
    exact hF
  refine ⟨?_, fault_set h2 c d⟩
  rw [heap_setCell_other _ _ _ _ (show A ≠ A + 1 by omega), heap_setCell_other _ _ _ _ (show A ≠ A + 1 by omega)]
  exact h1
theorem tf_alloc {W : World} {A : Nat} {x0 y0 z0 : Value} {a b : Int} (hA : W.heap[A]? = some (.cells #[x0, y0, z0] 24)) (hF : faultRow W (A + 1) a b) (x y z : Value) (c d : Int) (o : Obj) :
    (((((((W.setCell ⟨A, 0, none⟩ x).setCell ⟨A, 1, none⟩ y).setCell ⟨A, 2, none⟩ z).setCell ⟨A + 1, 0, none⟩ (.int .i64 c)).setCell ⟨A + 1, 1, none⟩ (.int .i64 d)).alloc o).drew).heap[A]? = some (.cells #[x, y, z] 24) ∧
    faultRow ((((((W.setCell ⟨A, 0, none⟩ x).setCell ⟨A, 1, none⟩ y).setCell ⟨A, 2, none⟩ z).setCell ⟨A + 1, 0, none⟩ (.int .i64 c)).setCell ⟨A + 1, 1, none⟩ (.int .i64 d)).alloc o).drew (A + 1) c d := by
  have hw := tf_write hA hF x y z c d
  have l1 := lt_of_heap hw.2
  have l0 := lt_of_heap hw.1
  exact ⟨(heap_alloc_old _ o l0).trans hw.1, (heap_alloc_old _ o l1).trans hw.2⟩
theorem tf_below {W0 W : World} {A : Nat} (hA : W0.heap.size = A) (h : Below W0.heap.size W0 W) (x y z c d : Value) :
    Below W0.heap.size W0 (((((W.setCell ⟨A, 0, none⟩ x).setCell ⟨A, 1, none⟩ y).setCell ⟨A, 2, none⟩ z).setCell ⟨A + 1, 0, none⟩ c).setCell ⟨A + 1, 1, none⟩ d) := by
  subst hA
  exact ((((h.setCell (p := ⟨W0.heap.size, 0, none⟩) (Nat.le_refl _) _).setCell (p := ⟨W0.heap.size, 1, none⟩) (Nat.le_refl _) _).setCell (p := ⟨W0.heap.size, 2, none⟩) (Nat.le_refl _) _).setCell (p := ⟨W0.heap.size + 1, 0, none⟩) (Nat.le_succ _) _).setCell (p := ⟨W0.heap.size + 1, 1, none⟩) (Nat.le_succ _) _

theorem tw_here {l : List UInt8} {k : Nat} (h : ∀ c ∈ l.take k, c ≠ 112) (hk : l[k]? = some 112) : l.takeWhile (· != 112) = l.take k ∧ l.dropWhile (· != 112) = l.drop k := by
  induction l generalizing k with
  | nil => simp at hk
  | cons a l ih =>
    cases k with
    | zero =>
      simp at hk
      subst hk
      simp
    | succ k =>
      have ha : a ≠ 112 := h a (by simp)
      have hb : (a != 112) = true := by simpa using ha
      obtain ⟨e1, e2⟩ := ih (k := k) (fun c hc => h c (by simp [hc])) (by simpa using hk)
      simp only [List.takeWhile_cons, List.dropWhile_cons, hb, if_true, e1, e2]
      exact ⟨rfl, rfl⟩
theorem tw_none {l : List UInt8} (h : ∀ c ∈ l, c ≠ 112) : l.takeWhile (· != 112) = l ∧ l.dropWhile (· != 112) = [] := by
  induction l with
  | nil => simp
  | cons a l ih =>
    have hb : (a != 112) = true := by simpa using h a (by simp)
    obtain ⟨e1, e2⟩ := ih fun c hc => h c (by simp [hc])
    simp [hb, e1, e2]
theorem set3_one {W : World} {g : Nat} {a b c : Value} {t : TypeId} {fr : Nat × Nat} (h : W.heap[g]? = some (.cells #[a, b, c] t fr)) (z : Value) : (W.setCell ⟨g, 2, none⟩ z).heap[g]? = some (.cells #[a, b, z] t fr) := by
  simp [World.setCell, Array.getElem?_modify, h]
theorem set3_mid {W : World} {g : Nat} {a b c : Value} {t : TypeId} {fr : Nat × Nat} (h : W.heap[g]? = some (.cells #[a, b, c] t fr)) (z : Value) : (W.setCell ⟨g, 1, none⟩ z).heap[g]? = some (.cells #[a, z, c] t fr) := by
  simp [World.setCell, Array.getElem?_modify, h]
theorem below_one_heap {B : Nat} {w w' : World} (hb : Below B w w') {b : Nat} (h : b < B) {o : Obj} (hh : w.heap[b]? = some o) : w'.heap[b]? = some o := (hb.block b h).trans hh
def PRel (r : ByteArray) (l : List UInt8) (x G : Nat) (W0 : World) (v6 v7 : Value) (wr : World) : Prop :=
  ∃ (v : ByteArray) (k wd : Nat), v6 = .string v ∧ v7 = .int .i64 (k : Int) ∧ k ≤ v.size + 1 ∧ v.size ≤ r.size ∧ wr.heap[G]? = some (.cells #[.int .u8 (x : Int), .int .u64 0, .int .i64 (wd : Int)] 24) ∧ Below G W0 wr ∧
    (k < v.size → v = r ∧ wd = 256 ∧ ∀ c ∈ r.data.toList.take k, c ≠ 112) ∧ (¬ k < v.size → digV 0 v.data.toList = refI l ∧ wd = refW l)

set_option maxHeartbeats 4000000 in
set_option maxRecDepth 100000 in
theorem refParse_any (s : ByteArray) (w : World) (hs : s.size ≤ 9223372036854774000) :
    Calls Tryz.prog 14 #[.string s] w fun e w' => e = .returned (refParseV s.data.toList) ∧ Below w.heap.size w w' := by
  have HP := Lib.hid fun X => faultPlain_any 3 (by decide) X
  have hpr := parse_ref s.data.toList
  rw [size_list] at hpr
  have RA := Lib.hid (heap_2a w (.cells #[.int .u8 0, .int .u64 0, .int .i64 0] 24) (.cells #[.int .i64 0, .int .i64 0] 30))
  have RB := Lib.hid (heap_2b w (.cells #[.int .u8 0, .int .u64 0, .int .i64 0] 24) (.cells #[.int .i64 0, .int .i64 0] 30))
  have BB := Lib.hid (below_two w (.cells #[.int .u8 0, .int .u64 0, .int .i64 0] 24) (.cells #[.int .i64 0, .int .i64 0] 30))
  by_cases h8 : s.size < 8
  · have HN := Lib.hid (refParse_none (l := s.data.toList) (by rw [hpr, if_neg (fun h => by omega)]))
    have h8i : (s.size : Int) < 8 := by omega
    generalize refParseV s.data.toList = pv at *
    clear hpr h8
    go_enter Tryz.func14, Tryz.ntmps14
    go_wp2_with fail
    refine (HP.out _).mono ?_
    rintro e w1 ⟨rfl, b1⟩
    have r0 := below_heap b1 RA.out
    have r1 : faultRow w1 (w.heap.size + 1) 0 0 := below_heap b1 RB.out
    have B1 := Lib.hid (below_trans BB.out b1)
    obtain ⟨c0, c1, c2⟩ := cells3 r0
    obtain ⟨d0, d1, f0, f1⟩ := r1.cells
    have f00 := frozen_row r0 0
    have f01 := frozen_row r0 1
    have f02 := frozen_row r0 2
    have l0 := lt_of_heap r0
    have l1 := lt_of_heap r1
    have R0 := Lib.hid r0
    have R1 := Lib.hid r1
    clear b1 r0 r1
    go_wp2_with fail
    go_region
    all_goals
      go_wp2_with fail
      refine ret_tf rfl w.heap.size (w.heap.size + 1) 0 0 0 3 (-1) (tf_alloc R0.out R1.out _ _ _ _ _ _).1 (tf_alloc R0.out R1.out _ _ _ _ _ _).2 rfl rfl rfl ⟨?_, ?_⟩
      · rw [HN.out]
      · exact ((tf_below rfl B1.out _ _ _ _ _).alloc (tf_below rfl B1.out _ _ _ _ _).size _).drew
  · have h8i : ¬ (s.size : Int) < 8 := by omega
    have hL9 := refL_lt s.data.toList
    have hLx : digV 0 (s.extract 5 6).data.toList = refL s.data.toList := by
      unfold refL
      rw [show (s.extract 5 6).data.toList = (s.data.toList.drop 5).take 1 by simp [List.extract_eq_take_drop]]
    have HDL := Lib.hid fun X => refDigits_any (s.extract 5 6) X (by
      rw [← size_list]
      simp [List.extract_eq_take_drop]
      omega)
    rw [hLx] at HDL
    have hrl : (s.extract 7 s.size).data.toList = s.data.toList.drop 7 := ext_drop s 7
    have hrs : (s.extract 7 s.size).size = s.size - 7 := by rw [← size_list, hrl, List.length_drop, size_list]
    have HRL := Lib.hid hrl
    have HPRV := Lib.hid hpr
    generalize hr0 : s.extract 7 s.size = r at *
    have hr1 : 1 ≤ r.size := by omega
    have hrb : r.size ≤ 9223372036854774000 := by omega
    have hxw : IntKind.wrap .u8 ((refL s.data.toList : Nat) : Int) = ((refL s.data.toList : Nat) : Int) := by
      rw [show IntKind.wrap .u8 ((refL s.data.toList : Nat) : Int) = ((refL s.data.toList : Nat) : Int) % 256 from rfl]
      omega
    have HHR := Lib.hid hrs
    have hb6 : (6 : Int) ≤ (s.size : Int) := by omega
    have hb7 : (7 : Int) ≤ (s.size : Int) := by omega
    have hLE : refL s.data.toList ≤ 255 := by omega
    clear hpr h8 hLx hrl hrs hL9
    generalize hxv : refL s.data.toList = x at *
    have HXV := Lib.hid hxv
    clear hxv
    go_enter Tryz.func14, Tryz.ntmps14
    go_wp2_with fail
    refine (HP.out _).mono ?_
    rintro e w1 ⟨rfl, b1⟩
    have R0 := Lib.hid (below_heap b1 RA.out)
    have R1 := Lib.hid (show faultRow w1 (w.heap.size + 1) 0 0 from below_heap b1 RB.out)
    have B1 := Lib.hid (below_trans BB.out b1)
    clear b1
    go_wp2_with fail
    refine (HDL.out _).mono ?_
    rintro e w2 ⟨rfl, rfl⟩
    go_wp2_with fail
    have hsz0 : (w1.alloc (.cells #[.int .i64 3, .int .i64 (-1)] 30)).heap.size = w1.heap.size + 1 := by simp
    have h0 := heap_one (w1.alloc (.cells #[.int .i64 3, .int .i64 (-1)] 30)) (.cells #[.int .u8 (x : Int), .int .u64 0, .int .i64 256] 24)
    have hb0 := below_one (w1.alloc (.cells #[.int .i64 3, .int .i64 (-1)] 30)) (.cells #[.int .u8 (x : Int), .int .u64 0, .int .i64 256] 24)
    rw [hsz0] at h0 hb0
    have HH0 := Lib.hid h0
    have HB0 := Lib.hid hb0
    have HRB := Lib.hid (show faultRow (w1.alloc (.cells #[.int .i64 3, .int .i64 (-1)] 30)) w1.heap.size 3 (-1) from heap_one w1 _)
    have HR0 := Lib.hid ((heap_alloc_old w1 (.cells #[.int .i64 3, .int .i64 (-1)] 30) (lt_of_heap R0.out)).trans R0.out)
    have HR1 := Lib.hid (show faultRow (w1.alloc (.cells #[.int .i64 3, .int .i64 (-1)] 30)) (w.heap.size + 1) 0 0 from (heap_alloc_old w1 _ (lt_of_heap R1.out)).trans R1.out)
    have HBW := Lib.hid (B1.out.alloc B1.out.size (.cells #[.int .i64 3, .int .i64 (-1)] 30))
    have HSZ := Lib.hid hsz0
    have HG1 := Lib.hid (lt_of_heap R1.out)
    clear h0 hb0 hsz0 R0 R1 B1 RA RB BB
    generalize w1.alloc (.cells #[.int .i64 3, .int .i64 (-1)] 30) = W0 at *
    go_loopw [6, 7] (fun v6 v7 wr => PRel r s.data.toList x (w1.heap.size + 1) W0 v6 v7 wr) (fun v6 v7 _ => strSz v6 + 1 - (intOf v7).toNat)
    case atStart => exact ⟨r, 0, 256, rfl, rfl, by omega, Nat.le_refl _, HH0.out, HB0.out, fun _ => ⟨rfl, rfl, by simp⟩, fun h => absurd hr1 h⟩
    case round =>
      obtain ⟨v, k, wd, rfl, rfl, hk, hv, hh, hbel, hin, hout⟩ := hrel
      rename World => wA
      by_cases hlt : k < v.size
      · obtain ⟨rfl, rfl, hno⟩ := hin hlt
        obtain ⟨c, hc, hdr⟩ := drop_at hlt
        have xk := fun w => run_idx (P := Tryz.prog) Tryz.underlying9 v k c hc (k : Int) rfl .i64 w
        have hlti : (k : Int) < (v.size : Int) := by omega
        have hki : (k : Int) ≤ (v.size : Int) := by omega
        have HNO := Lib.hid hno
        have HHH := Lib.hid hh
        have HBB := Lib.hid hbel
        have HDR := Lib.hid hdr
        have hck : v.data.toList[k]? = some c := by
          have := congrArg List.head? hdr
          simpa [List.head?_drop] using this
        have HCK := Lib.hid hck
        clear hin hout hno hdr hck hc
        by_cases hp : c = 112
        · subst hp
          have hk1 := ext_drop v k
          have hk0 := ext_take v k
          have hz1 : (v.extract k v.size).size ≤ 9223372036854775000 := by
            rw [← size_list, hk1, List.length_drop, size_list]
            omega
          have HD := Lib.hid fun X => refDigits_any (v.extract k v.size) X hz1
          rw [hk1] at HD
          have hD := digV_lt (v.data.toList.drop k) 0 (by decide)
          have hz0 : (v.extract 0 k).size = k := by
            rw [← size_list, hk0, List.length_take, size_list]
            omega
          have hvl : v.data.toList.length = v.size := size_list v
          obtain ⟨e1, e2⟩ := tw_here HNO.out HCK.out
          have hI : digV 0 (v.extract 0 k).data.toList = refI s.data.toList := by
            unfold refI
            rw [hk0, ← HRL.out, e1]
          have hW : digV 0 (v.data.toList.drop k) % 1000 = refW s.data.toList := by
            unfold refW
            rw [← HRL.out, e2, if_neg (by
              intro h0
              have := congrArg List.length h0
              rw [List.length_drop, List.length_nil] at this
              omega)]
          have HI := Lib.hid hI
          have HW := Lib.hid hW
          have HZ0 := Lib.hid hz0
          generalize digV 0 (v.data.toList.drop k) = D at *
          have hwr : IntKind.wrap .i64 ((D : Int) % 1000) = (D : Int) % 1000 := IntWalk.i64_in _ (by omega)
          obtain ⟨q0, q1, q2⟩ := cells3 hh
          have f2 := frozen_row hh 2
          have lg := lt_of_heap hh
          clear hh hbel hk1 hk0 hz1 hz0 hI hW e1 e2 hvl
          go_wp2_with fail
          refine (HD.out _).mono ?_
          rintro e w2 ⟨rfl, rfl⟩
          go_wp2_with fail
          go_roundw
          case rel =>
            refine ⟨v.extract 0 k, k + 1, D % 1000, rfl, by go_num, by rw [HZ0.out]; exact Nat.le_refl _, by rw [HZ0.out]; omega, by rw [show ((D % 1000 : Nat) : Int) = (D : Int) % 1000 by omega]; exact set3_one HHH.out _, HBB.out.setCell (p := ⟨w1.heap.size + 1, 2, none⟩) (Nat.le_refl _) _, fun h => ?_, fun _ => ⟨HI.out, HW.out⟩⟩
            rw [HZ0.out] at h
            omega
          case measure =>
            have := HZ0.out
            simp only [strSz, intOf]
            omega
        · have hce : ((c.toNat : Int) == 112) = false := by
            rw [beq_eq_false_iff_ne]
            intro h
            exact hp (UInt8.toNat_inj.1 (show c.toNat = 112 by omega))
          clear hh hbel
          go_wp2_with fail
          go_roundw
          case rel =>
            refine ⟨v, k + 1, 256, rfl, by go_num, by omega, Nat.le_refl _, HHH.out, HBB.out, fun _ => ⟨rfl, rfl, ?_⟩, fun h => ?_⟩
            · intro y hy
              rw [List.take_add_one, HCK.out] at hy
              rcases List.mem_append.1 hy with hy | hy
              · exact HNO.out y hy
              · simp at hy
                rw [hy]
                exact hp
            · have hall : ∀ y ∈ v.data.toList, y ≠ 112 := by
                intro y hy
                rw [← List.take_of_length_le (l := v.data.toList) (i := k + 1) (by rw [size_list]; omega), List.take_add_one, HCK.out] at hy
                rcases List.mem_append.1 hy with hy | hy
                · exact HNO.out y hy
                · simp at hy
                  rw [hy]
                  exact hp
              obtain ⟨e1, e2⟩ := tw_none hall
              unfold refI refW
              rw [← HRL.out, e1, e2, if_pos rfl]
              exact ⟨rfl, rfl⟩
          case measure => simp only [strSz, intOf]; omega
      · have hlti : ¬ (k : Int) < (v.size : Int) := by omega
        obtain ⟨hI, rfl⟩ := hout hlt
        have HD := Lib.hid fun X => refDigits_any v X (by omega)
        rw [hI] at HD
        have hI2 : refI s.data.toList ≤ 18446744073709551615 := by
          have := digV_lt v.data.toList 0 (by decide)
          omega
        obtain ⟨q0, q1, q2⟩ := cells3 hh
        have f1 := frozen_row hh 1
        have lg := lt_of_heap hh
        have HHH := Lib.hid hh
        have HBB := Lib.hid hbel
        have HP2 := Lib.hid (HXV.out ▸ HPRV.out : parseT s.data.toList = if 8 ≤ s.size ∧ MayT x (refI s.data.toList) (refW s.data.toList) ∧ nameT x (refI s.data.toList) (refW s.data.toList) = s.data.toList then some (x, refI s.data.toList, refW s.data.toList) else none)
        have H8 := Lib.hid (show 8 ≤ s.size by omega)
        have hI0 := Lib.hid hI
        clear hin hout hlt hh hbel hI HXV HPRV HRL
        generalize refI s.data.toList = I at *
        generalize refW s.data.toList = W at *
        go_wp2_with fail
        refine (HD.out _).mono ?_
        rintro e w2 ⟨rfl, rfl⟩
        go_wp2_with fail
        have hE := set3_mid HHH.out (.int .u64 (I : Int))
        have hBE := HBB.out.setCell (p := ⟨w1.heap.size + 1, 1, none⟩) (Nat.le_refl _) (.int .u64 (I : Int))
        have HE := Lib.hid hE
        have HBE := Lib.hid hBE
        clear hE hBE HHH HBB q0 q1 q2 f1 lg
        generalize wA.setCell ⟨w1.heap.size + 1, 1, none⟩ (.int .u64 (I : Int)) = wE at *
        have HM := Lib.hid fun X => refMay_any x I (W : Int) hLE hI2 X
        unfold tileV at HM
        by_cases hm : MayT x I (W : Int)
        · rw [decide_eq_true hm] at HM
          refine (HM.out _).mono ?_
          rintro e w3 ⟨rfl, b3⟩
          have hE3 := below_heap b3 HE.out
          have HE3 := Lib.hid hE3
          have HB3 := Lib.hid (HBE.out.trans (b3.mono (by have := HBE.out.size; have := HSZ.out; omega)))
          obtain ⟨q0, q1, q2⟩ := cells3 hE3
          have lg := lt_of_heap hE3
          have HNM := Lib.hid (refName_any x I W hm)
          by_cases hn : nameT x I W = s.data.toList
          · have HV := Lib.hid (refParse_some (HP2.out.trans (if_pos ⟨H8.out, hm, hn⟩)))
            rw [hn, back_bytes rfl] at HNM
            have hss : (s.toList == s.toList) = true := beq_self_eq_true _
            clear b3 hE3 hm
            go_wp2_with fail
            refine (HNM.out _).mono ?_
            rintro e w4 ⟨rfl, b4⟩
            have B4 := Lib.hid (HB3.out.trans (b4.mono (by have := HB3.out.size; have := HSZ.out; omega)))
            have hE4 := below_heap b4 HE3.out
            obtain ⟨p0, p1, p2⟩ := cells3 hE4
            have lg4 := lt_of_heap hE4
            have R0x := below_one_heap B4.out (by have := HG1.out; omega) HR0.out
            have R1x : faultRow w4 (w.heap.size + 1) 0 0 := below_one_heap B4.out (by have := HG1.out; omega) HR1.out
            obtain ⟨ca0, ca1, ca2⟩ := cells3 R0x
            obtain ⟨d0, d1, f0, f1⟩ := R1x.cells
            have f00 := frozen_row R0x 0
            have f01 := frozen_row R0x 1
            have f02 := frozen_row R0x 2
            have la := lt_of_heap R0x
            have lb := lt_of_heap R1x
            have HR0x := Lib.hid R0x
            have HR1x := Lib.hid R1x
            have HBx := Lib.hid (HBW.out.trans ((B4.out.mono (by have := HG1.out; omega))))
            clear b4 hE4 R0x R1x q0 q1 q2 lg
            go_wp2_with fail
            refine ret_tf rfl w.heap.size (w.heap.size + 1) x I W 0 0 (tf_write HR0x.out HR1x.out _ _ _ _ _).1 (tf_write HR0x.out HR1x.out _ _ _ _ _).2 rfl rfl rfl ⟨?_, tf_below rfl HBx.out _ _ _ _ _⟩
            rw [HV.out]
          · have HV := Lib.hid (refParse_none (HP2.out.trans (if_neg fun h => hn h.2.2)))
            have hgn : (⟨(nameT x I W).toArray⟩ : ByteArray).data.toList = nameT x I W := by simp
            rw [← hgn] at hn
            have HGN := Lib.hid hgn
            clear hgn
            generalize (⟨(nameT x I W).toArray⟩ : ByteArray) = gn at *
            have hn1 : (gn.toList == s.toList) = false := by
              rw [beq_eq_false_iff_ne, Lib.toList_data, Lib.toList_data]
              exact hn
            have hn2 : (gn.toList != s.toList) = true := by rw [bne, hn1]; rfl
            clear b3 hE3 hm hn HGN
            go_wp2_with fail
            refine (HNM.out _).mono ?_
            rintro e w4 ⟨rfl, b4⟩
            have B4 := Lib.hid (HB3.out.trans (b4.mono (by have := HB3.out.size; have := HSZ.out; omega)))
            have R0x := below_one_heap B4.out (by have := HG1.out; omega) HR0.out
            have R1x : faultRow w4 (w.heap.size + 1) 0 0 := below_one_heap B4.out (by have := HG1.out; omega) HR1.out
            have RBx : faultRow w4 w1.heap.size 3 (-1) := below_one_heap B4.out (Nat.lt_succ_self _) HRB.out
            have Bx : Below w.heap.size w w4 := HBW.out.trans (B4.out.mono (by have := HG1.out; omega))
            clear b4 HNM q0 q1 q2 lg
            have cA := cells3 R0x
            obtain ⟨ca0, ca1, ca2⟩ := cA
            obtain ⟨d0, d1, f0, f1⟩ := R1x.cells
            obtain ⟨bb0, bb1, _, _⟩ := RBx.cells
            have f00 := frozen_row R0x 0
            have f01 := frozen_row R0x 1
            have f02 := frozen_row R0x 2
            have la := lt_of_heap R0x
            have lb := lt_of_heap R1x
            have lc := lt_of_heap RBx
            have hg1 := HG1.out
            have HR0x := Lib.hid R0x
            have HR1x := Lib.hid R1x
            have HBx := Lib.hid Bx
            clear R0x R1x RBx Bx
            go_wp2_with fail
            go_region
            all_goals
              go_wp2_with fail
              refine ret_tf rfl w.heap.size (w.heap.size + 1) 0 0 0 3 (-1) (tf_write HR0x.out HR1x.out _ _ _ _ _).1 (tf_write HR0x.out HR1x.out _ _ _ _ _).2 rfl rfl rfl ⟨?_, (tf_below rfl HBx.out _ _ _ _ _).drew⟩
              rw [HV.out]
        · rw [decide_eq_false hm] at HM
          have HV := Lib.hid (refParse_none (HP2.out.trans (if_neg fun h => hm h.2.1)))
          refine (HM.out _).mono ?_
          rintro e w3 ⟨rfl, b3⟩
          have B3 := Lib.hid (HBE.out.trans (b3.mono (by have := HBE.out.size; have := HSZ.out; omega)))
          have R0x := below_one_heap B3.out (by have := HG1.out; omega) HR0.out
          have R1x : faultRow w3 (w.heap.size + 1) 0 0 := below_one_heap B3.out (by have := HG1.out; omega) HR1.out
          have RBx : faultRow w3 w1.heap.size 3 (-1) := below_one_heap B3.out (Nat.lt_succ_self _) HRB.out
          have Bx : Below w.heap.size w w3 := HBW.out.trans (B3.out.mono (by have := HG1.out; omega))
          clear b3 HM
          have cA := cells3 R0x
          obtain ⟨ca0, ca1, ca2⟩ := cA
          obtain ⟨d0, d1, f0, f1⟩ := R1x.cells
          obtain ⟨bb0, bb1, _, _⟩ := RBx.cells
          have f00 := frozen_row R0x 0
          have f01 := frozen_row R0x 1
          have f02 := frozen_row R0x 2
          have la := lt_of_heap R0x
          have lb := lt_of_heap R1x
          have lc := lt_of_heap RBx
          have hg1 := HG1.out
          have HR0x := Lib.hid R0x
          have HR1x := Lib.hid R1x
          have HBx := Lib.hid Bx
          clear R0x R1x RBx Bx
          go_wp2_with fail
          go_region
          all_goals
            go_wp2_with fail
            refine ret_tf rfl w.heap.size (w.heap.size + 1) 0 0 0 3 (-1) (tf_write HR0x.out HR1x.out _ _ _ _ _).1 (tf_write HR0x.out HR1x.out _ _ _ _ _).2 rfl rfl rfl ⟨?_, (tf_below rfl HBx.out _ _ _ _ _).drew⟩
            rw [HV.out]
end Go.Proofs.YtopilalefilkjaaGreatDoor
