/-
  cartularyref11.All and cartularylaw01.SameTiles by their contracts.
-/
import Derived.Test.YtlahdjdbbfjadaaGreatDoorTileAll
import Derived.Test.YtlahdjdbbfjadaaGreatDoorTileMay
import Derived.Test.YtlahdjdbbfjadaaGreatDoorSha5
namespace Go.Proofs.YtlahdjdbbfjadaaGreatDoor
open Go.RowKit

theorem faultInfoA : (Tryz.prog.info? 30).map (·.size) = some 2 := by kernel_rfl
theorem one2A (x y : Int) : (#[.int .i64 x, .int .i64 y] : Array Value).all (·.oneCell') = true := by
  rw [List.all_toArray]
  rfl
theorem faultPlainA (c : Int) (hc : c ≠ 0) (w : World) :
    Calls Tryz.prog 30 #[.int .i64 c] w fun e w' => e = .returned (.agg #[.int .i64 c, .int .i64 (-1)]) ∧ Below w.heap.size w w' := by
  have h1 : (c == 0) = false := by simpa using hc
  clear hc
  go_enter Tryz.func30, Tryz.ntmps30
  go_wp2_with fail
  refine bodyPost_ret (v := .agg #[.int .i64 c, .int .i64 (-1)]) ?_ rfl ⟨rfl, (Below.refl _ _).alloc (Nat.le_refl _) _⟩
  exact results_cell_row rfl _ _ w.heap.size 30 _ (0, 0) _ rfl (heap_alloc_new w _) Tryz.underlying30 rfl faultInfoA
theorem results_tmp_rowA {P : Program} {fn : Func} {u p : Tmp} {ty : TypeId} (h : fn.results = #[.tmp u, .cell p ty]) (tmps : Array Value) (w : World) (g : Nat) (t : TypeId) (cs : Array Value) (fr : Nat × Nat) (d : TypeDesc)
    (hp : tmps.getD p undef = .pointer (some ⟨g, 0, none⟩)) (hg : w.heap[g]? = some (.cells cs t fr))
    (hu : P.underlying ty = some d) (hd : (match d with | .struct _ | .array _ _ => true | _ => false) = true) (hi : (P.info? ty).map (·.size) = some cs.size) :
    (results fn tmps).run P w = .ok (.tuple #[tmps.getD u undef, .agg cs]) w := by
  have hp' : tmps[p]?.getD undef = .pointer (some ⟨g, 0, none⟩) := by simpa using hp
  simp [results, h, hp', asAddr, run_loadVar_row w g t ty cs fr d hg hu hd hi, Result.andThen]
theorem ret_toldA {fn : Func} {u p : Tmp} (hf : fn.results = #[.tmp u, .cell p 30]) {Q : Ending → World → Prop} {a : Act} {w : World} (g : Nat) (c z : Int) (v : Value)
    (hg : w.heap[g]? = some (.cells #[.int .i64 c, .int .i64 z] 30 (0, 0))) (hd : a.defers = []) (hp : a.tmps.getD p undef = .pointer (some ⟨g, 0, none⟩)) (hv : a.tmps.getD u undef = v) (hQ : Q (.returned (.tuple #[v, .agg #[.int .i64 c, .int .i64 z]])) w) : bodyPost Tryz.prog fn Q .ret a w := by
  refine bodyPost_ret (v := .tuple #[v, .agg #[.int .i64 c, .int .i64 z]]) ?_ hd hQ
  rw [← hv]
  exact results_tmp_rowA hf _ _ g 30 _ (0, 0) _ hp hg Tryz.underlying30 rfl faultInfoA
set_option maxHeartbeats 2000000 in
set_option maxRecDepth 100000 in
theorem rall_over (Z : Nat) (hZ : 1048576 < Z) (w : World) :
    Calls Tryz.prog 20 #[.int .u64 (Z : Int)] w fun e w' => e = .returned (.tuple #[.slice none 0 0, .agg #[.int .i64 5, .int .i64 (-1)]]) ∧ Below w.heap.size w w' := by
  have hZ' : (1048576 : Int) < Z := by omega
  have hO := heap_one w (.cells #[.int .i64 0, .int .i64 0] 30)
  have hB := below_one w (.cells #[.int .i64 0, .int .i64 0] 30)
  go_enter Tryz.func20, Tryz.ntmps20
  go_upto_region 1 with fail
  generalize (w.alloc (.cells #[.int .i64 0, .int .i64 0] 30)) = w1 at *
  have HO := Lib.hid hO
  have HB := Lib.hid hB
  clear hO hB
  go_wp2_with (go_at_call 30; refine (faultPlainA 5 (by decide) _).mono ?_)
  first
    | rintro e w2 rfl hb2
    | rintro e w2 ⟨rfl, hb2⟩
  have HO2 := Lib.hid (below_heap hb2 HO.out)
  have HB2 := Lib.hid (HB.out.trans (hb2.mono HB.out.size))
  clear hb2
  have HRE := Lib.hid (setRow_heap w2 w.heap.size _ #[.int .i64 5, .int .i64 (-1)] 30 (0, 0) HO2.out)
  have HBR := Lib.hid (below_setRow HB2.out (Nat.le_refl _) #[.int .i64 5, .int .i64 (-1)])
  go_wp2_with (refine wpList_store_row (by rfl) 30 (.tmp 3) (.tmp 10) (by rfl) w.heap.size #[.int .i64 5, .int .i64 (-1)] (by rfl) (by rfl) 30 #[.int .i64 0, .int .i64 0] HO2.out faultInfoA rfl (one2A _ _) ?_)
  exact ret_toldA rfl w.heap.size 5 (-1) _ HRE.out rfl rfl rfl ⟨rfl, HBR.out⟩
def RAll (Z : Nat) (w1 : World) (vl vL : Value) (wr : World) : Prop :=
  ∃ v : Nat, v ≤ 8 ∧ vL = .int .u8 (v : Int) ∧ wr.ownsRow w1.heap.size 93 3 vl (pre Z v).length (tcells (pre Z v)) ∧ Below w1.heap.size w1 wr
def RLev (Z v : Nat) (w1 : World) (vl vi : Value) (wr : World) : Prop :=
  ∃ i : Nat, i ≤ nT Z v ∧ vi = .int .u64 (i : Int) ∧ wr.ownsRow w1.heap.size 93 3 vl (part Z v i).length (tcells (part Z v i)) ∧ Below w1.heap.size w1 wr
set_option maxHeartbeats 4000000 in
set_option maxRecDepth 100000 in
theorem rall_any (Z : Nat) (hZ : Z ≤ 1048576) (w : World) :
    Calls Tryz.prog 20 #[.int .u64 (Z : Int)] w fun e w' => (∃ vl, e = .returned (.tuple #[vl, .agg #[.int .i64 0, .int .i64 0]]) ∧ w'.ownsRow w.heap.size 93 3 vl (pre Z 8).length (tcells (pre Z 8))) ∧ Below w.heap.size w w' := by
  obtain ⟨i0, hi, hz⟩ := Option.map_eq_some_iff.1 infoTile
  simp only [Prod.mk.injEq] at hz
  obtain ⟨hz0, hz1, hz2⟩ := hz
  have hZ' : ¬ (1048576 : Int) < Z := by omega
  have hO := heap_one w (.cells #[.int .i64 0, .int .i64 0] 30)
  have hB := below_one w (.cells #[.int .i64 0, .int .i64 0] 30)
  go_enter Tryz.func20, Tryz.ntmps20
  go_upto_region 1 with fail
  generalize (w.alloc (.cells #[.int .i64 0, .int .i64 0] 30)) = w1 at *
  have HO := Lib.hid hO
  have HB := Lib.hid hB
  have HW := Lib.hid (lt_of_heap hO)
  clear hO hB
  go_wp2_with fail
  go_loopw [4, 5] (fun vl vL wr => RAll Z w1 vl vL wr) (fun _ vL _ => 8 - (intOf vL).toNat)
  case atStart => exact ⟨0, by omega, rfl, World.ownsRow_nil _ _ _ _, Below.refl _ _⟩
  case round =>
    obtain ⟨v, hv, rfl, hown, hbel⟩ := hrel
    obtain ⟨ao, cap, rfl⟩ := owns_any hown
    rename World => wA
    have HOW := Lib.hid hown
    have HBE := Lib.hid hbel
    clear hown hbel
    by_cases hv8 : v < 8
    · have g1 : (v : Int) < 8 := by omega
      have g2 : (0 : Int) ≤ (v : Int) := by omega
      have HN := Lib.hid fun W => (by
        have h := nodes_any Z (8 * v) (by omega) (by omega) W
        rw [Int.natCast_mul] at h
        exact h : Calls Tryz.prog 87 #[.int .u64 (Z : Int), .int .u64 (8 * (v : Int))] W fun e w' => e = .returned (.int .u64 ((cnt Z v : Nat) : Int)) ∧ W = w')
      have hcn : cnt Z v ≤ 1048576 := Nat.le_trans (cnt_le Z v) hZ
      have hnt := nT_le Z v hZ
      have HNT := Lib.hid (show nT Z v = (cnt Z v + 255) / 256 from rfl)
      have HIW := Lib.hid fun i => (show inW v i Z = min (cnt Z v - i * 256) 256 from rfl)
      obtain ⟨n, hn⟩ : ∃ n, cnt Z v = n := ⟨_, rfl⟩
      rw [hn] at HN HNT HIW hcn
      go_wp2_with (go_at_call 87; refine (HN.out _).mono ?_)
      first
        | rintro e w2 rfl rfl
        | rintro e w2 ⟨rfl, rfl⟩
      go_wp2_with fail
      go_loopw [4, 7] (fun vl vi wr => RLev Z v w1 vl vi wr) (fun _ vi _ => nT Z v + 1 - (intOf vi).toNat)
      case atStart => exact ⟨0, by omega, rfl, by rw [part_zero]; exact HOW.out, HBE.out⟩
      case round =>
        obtain ⟨i, hin, rfl, hown, hbel⟩ := hrel
        obtain ⟨ao2, cap2, rfl⟩ := owns_any hown
        have hi0 : (0 : Int) ≤ (i : Int) := by omega
        by_cases hp : i < nT Z v
        · have hin2 : (i : Int) * 256 < (n : Int) := by have := HNT.out; omega
          have hi4 : (i : Int) ≤ 4096 := by omega
          have hn4 : (n : Int) ≤ 1048576 := by omega
          have hmin : min 256 ((n : Int) - (i : Int) * 256) = ((inW v i Z : Nat) : Int) := by rw [HIW.out]; omega
          have hw256 : ((inW v i Z : Nat) : Int) ≤ 256 := by rw [← hmin]; omega
          have hl : (part Z v i).length ≤ 20000 := by
            rw [part_len]
            have := pre_len Z v hZ
            omega
          have HBE2 := Lib.hid hbel
          clear hbel
          go_wp2_with (at_builtin; refine wpList_append_own _ rfl _ _ 61 rfl w1.heap.size 93 i0 (.agg #[.int .u8 0, .int .u64 0, .int .i64 0]) 3 24 Tryz.underlying61 hi hz0 hz1 hz2 rfl (by decide) _ _ _ rfl (hown.alloc _) ⟨wr.heap.size, 0, none⟩ 1 1 (tcell (mkT Z v i)) rfl rfl (by exact news3 _ _ (by simp) _ _ _ _) (by intro u hu; simp [tcell] at hu; rcases hu with rfl | rfl | rfl <;> rfl) (by unfold maxLen; omega) (by omega) (by have := HBE2.out.size; simp; omega) ?_)
          intro v' w2 hown2 hgrow _
          have hbel2 : Below w1.heap.size w1 w2 := (HBE2.out.alloc HBE2.out.size _).grown hgrow (by have := HBE2.out.size; simp; omega) (fun j hj => (hown.lt j hj).1)
          rw [← part_cells] at hown2
          have HO2 := Lib.hid hown2
          have HB2 := Lib.hid hbel2
          clear hgrow hown2 hbel2 hmin
          go_wp2_with fail
          go_roundw
          case rel => exact ⟨i + 1, by omega, by go_num, by rw [part_len, ← Nat.add_assoc, ← part_len]; exact HO2.out, HB2.out⟩
          case measure => simp [intOf]; omega
        · obtain rfl : i = nT Z v := by omega
          have hin2 : ¬ ((nT Z v : Nat) : Int) * 256 < (n : Int) := by have := HNT.out; omega
          have hi4 : ((nT Z v : Nat) : Int) ≤ 4096 := by omega
          have HO1 := Lib.hid hown
          have HB1 := Lib.hid hbel
          clear hown hbel
          go_wp2_with fail
          go_roundw
          case rel =>
            refine ⟨v + 1, by omega, by go_num, ?_, HB1.out⟩
            have := HO1.out
            rw [← part_full]
            exact this
          case measure => simp [intOf]; omega
    · obtain rfl : v = 8 := by omega
      have g1 : ¬ ((8 : Nat) : Int) < 8 := by decide
      have HOF := Lib.hid ((HBE.out.block w.heap.size HW.out).trans HO.out)
      have HRE := Lib.hid (setRow_heap wA w.heap.size _ #[.int .i64 0, .int .i64 0] 30 (0, 0) HOF.out)
      have HBR := Lib.hid (below_setRow (HB.out.trans (HBE.out.mono HB.out.size)) (Nat.le_refl _) #[.int .i64 0, .int .i64 0])
      go_wp2_with (refine wpList_store_row (by rfl) 30 (.tmp 3) (.tmp 39) (by rfl) w.heap.size #[.int .i64 0, .int .i64 0] (by rfl) (by rfl) 30 #[.int .i64 0, .int .i64 0] HOF.out faultInfoA rfl (one2A _ _) ?_)
      refine ret_toldA rfl w.heap.size 0 0 _ HRE.out rfl rfl rfl ⟨⟨_, rfl, ?_⟩, HBR.out⟩
      refine ⟨HOW.out.1, ?_⟩
      rcases HOW.out.2 with h' | ⟨g, c, cur, h, hg, hh, hr⟩
      · exact .inl h'
      · exact .inr ⟨g, c, cur, h, Nat.le_trans HB.out.size hg, (setRow_other wA w.heap.size g _ (by have := HW.out; omega)).trans hh, hr⟩
set_option maxHeartbeats 2000000 in
set_option maxRecDepth 100000 in
theorem sameTiles_any (u v : Value) (L : List T3) (B1 B2 : Nat) (w : World) (hL : L.length ≤ 1048576) (hu : w.ownsRow B1 93 3 u L.length (tcells L)) (hv : w.ownsRow B2 93 3 v L.length (tcells L)) :
    Calls Tryz.prog 21 #[u, v] w fun e w' => e = .returned (.bool true) ∧ Below w.heap.size w w' := by
  obtain ⟨ao, cap, rfl⟩ := owns_any hu
  obtain ⟨ao2, cap2, rfl⟩ := owns_any hv
  have HU := Lib.hid hu
  have HV := Lib.hid hv
  clear hu hv
  obtain ⟨n, hn⟩ : ∃ n, L.length = n := ⟨_, rfl⟩
  rw [hn] at HU HV hL ⊢
  go_enter Tryz.func21, Tryz.ntmps21
  go_wp2_with fail
  go_loopw [5] (fun vi wr => ∃ i : Nat, i ≤ n ∧ vi = .int .i64 (i : Int) ∧ Below w.heap.size w wr) (fun vi _ => n - (intOf vi).toNat)
  case atStart => exact ⟨0, Nat.zero_le _, rfl, Below.refl _ _⟩
  case round =>
    obtain ⟨i, hin, rfl, hbel⟩ := hrel
    rename World => wA
    by_cases hi : i < n
    · have i1 : (i : Int) < (n : Int) := by omega
      have i0 : (0 : Int) ≤ (i : Int) := by omega
      obtain ⟨t, ht⟩ : ∃ t, L[i]? = some t := ⟨_, List.getElem?_eq_getElem (by omega)⟩
      obtain ⟨e0, e1, e2⟩ := tcells_get L i t ht
      have fa : ∃ g, ao = some ⟨g, 0, none⟩ := by
        rcases HU.out.2 with ⟨_, h⟩ | ⟨g, c', cur, h, _⟩
        · omega
        · injection h with h1
          exact ⟨g, h1⟩
      have fb : ∃ g, ao2 = some ⟨g, 0, none⟩ := by
        rcases HV.out.2 with ⟨_, h⟩ | ⟨g, c', cur, h, _⟩
        · omega
        · injection h with h1
          exact ⟨g, h1⟩
      obtain ⟨g, rfl⟩ := fa
      obtain ⟨g2, rfl⟩ := fb
      have ca := fun j v (h : (tcells L)[j]? = some v) => below_cell hbel (by have := HU.out.cells (g := g) rfl j v h; rwa [Addr.add_mid, Nat.zero_add] at this : w.cell? ⟨g, j, none⟩ = some v)
      have cb := fun j v (h : (tcells L)[j]? = some v) => below_cell hbel (by have := HV.out.cells (g := g2) rfl j v h; rwa [Addr.add_mid, Nat.zero_add] at this : w.cell? ⟨g2, j, none⟩ = some v)
      rw [Nat.mul_comm] at e0 e1 e2
      have a0 := ca _ _ e0
      have a1 := ca _ _ e1
      have a2 := ca _ _ e2
      have b0 := cb _ _ e0
      have b1 := cb _ _ e1
      have b2 := cb _ _ e2
      have la := lt_of_cell a0
      have lb := lt_of_cell b0
      have HBE := Lib.hid hbel
      clear hbel ca cb e0 e1 e2 ht
      go_wp2_with fail
      go_quiet (fail)
      clear a0 a1 a2 b0 b1 b2
      go_wp2_with fail
      go_roundw
      case rel => exact ⟨i + 1, by omega, by go_num, below_drewN HBE.out _⟩
      case measure => simp [intOf]; omega
    · obtain rfl : i = n := by omega
      have i1 : ¬ (i : Int) < (i : Int) := by omega
      go_wp2_with fail
      go_ret
      exact ⟨rfl, hbel⟩
end Go.Proofs.YtlahdjdbbfjadaaGreatDoor
