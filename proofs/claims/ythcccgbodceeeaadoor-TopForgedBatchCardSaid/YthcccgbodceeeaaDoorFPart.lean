/-
  forge's part and so by their contracts.
-/
import Derived.Test.YthcccgbodceeeaaDoorFWalk4
namespace Go.Proofs.YthcccgbodceeeaaDoor
open Go.RowKit

theorem six_blocks (w : World) (A B C D E F : Array Value) (TA TB TC TD TE TF : TypeId) : let W := (((((w.alloc (.cells A TA)).alloc (.cells B TB)).alloc (.cells C TC)).alloc (.cells D TD)).alloc (.cells E TE)).alloc (.cells F TF)
    W.heap[w.heap.size]? = some (.cells A TA (0, 0)) ∧ W.heap[w.heap.size + 1]? = some (.cells B TB (0, 0)) ∧ W.heap[w.heap.size + 1 + 1]? = some (.cells C TC (0, 0)) ∧ W.heap[w.heap.size + 1 + 1 + 1]? = some (.cells D TD (0, 0)) ∧ W.heap[w.heap.size + 1 + 1 + 1 + 1]? = some (.cells E TE (0, 0)) ∧ W.heap[w.heap.size + 1 + 1 + 1 + 1 + 1]? = some (.cells F TF (0, 0)) ∧ Below w.heap.size w W := by
  intro W
  obtain ⟨h1, h2, h3, hs, hb⟩ := three_blocks w A B C TA TB TC
  obtain ⟨h4, h5, h6, _, hb2⟩ := three_blocks (((w.alloc (.cells A TA)).alloc (.cells B TB)).alloc (.cells C TC)) D E F TD TE TF
  rw [hs] at h4 h5 h6
  exact ⟨below_heap hb2 h1, below_heap hb2 h2, below_heap hb2 h3, h4, h5, h6, hb.trans (hb2.mono hb.size)⟩
theorem results_strs {fn : Func} {u p q : Tmp} (h : fn.results = #[.cell p 9, .cell u 9, .tmp q]) (tmps : Array Value) (w : World) (g g2 : Nat) (x y : ByteArray) (v : Value) (hv : tmps.getD q undef = v)
    (hp : tmps.getD p undef = .pointer (some ⟨g, 0, none⟩)) (hg : w.cell? ⟨g, 0, none⟩ = some (.string x)) (hp2 : tmps.getD u undef = .pointer (some ⟨g2, 0, none⟩)) (hg2 : w.cell? ⟨g2, 0, none⟩ = some (.string y)) :
    (results fn tmps).run Tryd.prog w = .ok (.tuple #[.string x, .string y, v]) w := by
  have hp' : tmps[p]?.getD undef = .pointer (some ⟨g, 0, none⟩) := by simpa using hp
  have hp2' : tmps[u]?.getD undef = .pointer (some ⟨g2, 0, none⟩) := by simpa using hp2
  subst hv
  simp [results, h, hp', hp2', asAddr, go_sem, hg, hg2, Result.andThen]
/-- What part tells. -/
def PartPost (r : Option (List UInt8 × List UInt8)) (w : World) (x : Ending) (w' : World) : Prop :=
  ∃ s s', x = .returned (.tuple #[.string s, .string s', .bool r.isSome]) ∧ (∀ p q, r = some (p, q) → bs s = p ∧ bs s' = q) ∧ Below w.heap.size w w'
set_option maxHeartbeats 1000000 in
set_option maxRecDepth 100000 in
theorem part_any (S : Nat → Addr) (lb mb cb B Z : Nat) (ls fs : List ByteArray) (zp : List ((Nat × Nat) × List UInt8)) (F : Nat → List UInt8) (w : World) (hO : PartOld S w lb mb cb B ls fs zp) (hz : Looks zp) (hl4 : ls.length ≤ 400) (hls : ∀ s ∈ ls, s.size ≤ 65536) (hF : ∀ i, i < fs.length → ∃ s, fs[i]? = some s ∧ F (B + i) = bs s ∧ s.size ≤ 140737488355327)
    (hZ0 : 0 < Z) (hZ : Z ≤ ls.length) (hk : Knows zp B (B + fs.length) Z 0 Z) :
    Calls Tryd.prog 22 #[.pointer (some ⟨cb, 0, none⟩), .int .u64 (Z : Int)] w fun x w' => PartPost (walkF spL (lf ls) (lookP zp) F B (B + fs.length) Z 0 Z) w x w' := by
  obtain ⟨r, hr⟩ : ∃ r, walkF spL (lf ls) (lookP zp) F B (B + fs.length) Z 0 Z = r := ⟨_, rfl⟩
  have HW := Lib.hid fun (W : World) (kc kcut ka kb ks kw : Nat) (hE : WalkEnv w W cb kc kcut ka kb ks kw) => (by
    have h := pwalk_any S w lb mb cb B ls fs zp kc kcut ka kb ks kw F hO hz hl4 hls hF Z 0 Z W hE hZ0 hZ (by omega) hk
    rw [hr] at h
    unfold walkArgs at h
    exact h : Calls Tryd.prog 35 #[.agg #[.int .u64 0, .int .u64 (Z : Int)], .pointer (some ⟨kc, 0, none⟩), .pointer (some ⟨kcut, 0, none⟩), .pointer (some ⟨ka, 0, none⟩), .pointer (some ⟨kb, 0, none⟩), .pointer (some ⟨ks, 0, none⟩), .pointer (some ⟨kw, 0, none⟩)] W fun x w' => WalkPost w cb kc kcut ka kb ks kw W r x w')
  rw [hr]
  clear hr hO hz hls hF hk hZ0 hZ hl4
  go_enter Tryd.func22, Tryd.ntmps22
  go_upto_region 6 with fail
  obtain ⟨k1, k2, k3, k4, k5, k6, k7⟩ := six_blocks w #[.pointer (some ⟨cb, 0, none⟩)] #[.string ⟨#[]⟩] #[.string ⟨#[]⟩] #[.func (.func 34) #[] #[.pointer (some ⟨w.heap.size, 0, none⟩), .pointer (some ⟨w.heap.size + 1 + 1 + 1 + 1, 0, none⟩), .pointer (some ⟨w.heap.size + 1 + 1 + 1, 0, none⟩)]] #[.func (.func 33) #[] #[]] #[.func (.func 35) #[] #[.pointer (some ⟨w.heap.size, 0, none⟩), .pointer (some ⟨w.heap.size + 1 + 1 + 1 + 1, 0, none⟩), .pointer (some ⟨w.heap.size + 1, 0, none⟩), .pointer (some ⟨w.heap.size + 1 + 1, 0, none⟩), .pointer (some ⟨w.heap.size + 1 + 1 + 1, 0, none⟩), .pointer (some ⟨w.heap.size + 1 + 1 + 1 + 1 + 1, 0, none⟩)]] 57 9 9 80 81 84
  generalize (((((w.alloc (.cells #[.pointer (some ⟨cb, 0, none⟩)] 57)).alloc (.cells #[.string ⟨#[]⟩] 9)).alloc (.cells #[.string ⟨#[]⟩] 9)).alloc (.cells #[.func (.func 34) #[] #[.pointer (some ⟨w.heap.size, 0, none⟩), .pointer (some ⟨w.heap.size + 1 + 1 + 1 + 1, 0, none⟩), .pointer (some ⟨w.heap.size + 1 + 1 + 1, 0, none⟩)]] 80)).alloc (.cells #[.func (.func 33) #[] #[]] 81)).alloc (.cells #[.func (.func 35) #[] #[.pointer (some ⟨w.heap.size, 0, none⟩), .pointer (some ⟨w.heap.size + 1 + 1 + 1 + 1, 0, none⟩), .pointer (some ⟨w.heap.size + 1, 0, none⟩), .pointer (some ⟨w.heap.size + 1 + 1, 0, none⟩), .pointer (some ⟨w.heap.size + 1 + 1 + 1, 0, none⟩), .pointer (some ⟨w.heap.size + 1 + 1 + 1 + 1 + 1, 0, none⟩)]] 84) = wP at *
  have HE := Lib.hid (show WalkEnv w wP cb w.heap.size (w.heap.size + 1 + 1 + 1 + 1) (w.heap.size + 1) (w.heap.size + 1 + 1) (w.heap.size + 1 + 1 + 1) (w.heap.size + 1 + 1 + 1 + 1 + 1) from ⟨k7, by omega, by omega, by omega, by omega, by omega, by omega, by omega, ⟨_, _, k1⟩, ⟨_, _, k5⟩, ⟨_, _, k4⟩, ⟨_, _, k6⟩, ⟨_, k2⟩, ⟨_, k3⟩⟩)
  have c0 := cell_of k6 0 rfl
  have HB := Lib.hid k7
  clear k1 k2 k3 k4 k5 k6 k7
  cases r with
  | none =>
    go_wp2_with (go_at_call 35; refine (HW.out wP w.heap.size (w.heap.size + 1 + 1 + 1 + 1) (w.heap.size + 1) (w.heap.size + 1 + 1) (w.heap.size + 1 + 1 + 1) (w.heap.size + 1 + 1 + 1 + 1 + 1) HE.out).mono ?_)
    rintro x w1 ⟨rfl, _, hE1, hab⟩
    have HB1 := Lib.hid (hab.below HB.out (by omega) (by omega))
    obtain ⟨sa, ha⟩ := hE1.a
    obtain ⟨sb, hb⟩ := hE1.b
    have a0 := cell_of ha 0 rfl
    have a1 := frozen_row ha 0
    have b0 := cell_of hb 0 rfl
    have b1 := frozen_row hb 0
    have HSET := Lib.hid (hE1.set ⟨#[]⟩ ⟨#[]⟩)
    have q1 : w.heap.size + 1 + 1 ≠ w.heap.size + 1 := by omega
    clear ha hb hE1 hab c0
    simp only [Option.isSome_none]
    go_wp2_with fail
    refine bodyPost_ret (v := .tuple #[.string ⟨#[]⟩, .string ⟨#[]⟩, .bool false]) ?_ rfl ⟨_, _, rfl, (fun _ _ h => by cases h), HSET.out.2.2.2.below HB1.out (by omega) (by omega)⟩
    exact results_strs rfl _ _ (w.heap.size + 1) (w.heap.size + 1 + 1) _ _ _ rfl rfl (cell_of HSET.out.2.1 0 rfl) rfl (cell_of HSET.out.2.2.1 0 rfl)
  | some z =>
    obtain ⟨p, q⟩ := z
    go_wp2_with (go_at_call 35; refine (HW.out wP w.heap.size (w.heap.size + 1 + 1 + 1 + 1) (w.heap.size + 1) (w.heap.size + 1 + 1) (w.heap.size + 1 + 1 + 1) (w.heap.size + 1 + 1 + 1 + 1 + 1) HE.out).mono ?_)
    rintro x w1 ⟨rfl, hpq, hE1, hab⟩
    have HB1 := Lib.hid (hab.below HB.out (by omega) (by omega))
    obtain ⟨sa, sb, ha, hb, hs1, hs2⟩ := hpq p q rfl
    have a0 := cell_of ha 0 rfl
    have a1 := frozen_row ha 0
    have b0 := cell_of hb 0 rfl
    have b1 := frozen_row hb 0
    have HSET := Lib.hid (hE1.set sa sb)
    have q1 : w.heap.size + 1 + 1 ≠ w.heap.size + 1 := by omega
    have q2 : w.heap.size + 1 ≠ w.heap.size + 1 + 1 := by omega
    have HS := Lib.hid (And.intro hs1 hs2)
    clear ha hb hE1 hab c0 hpq hs1 hs2
    simp only [Option.isSome_some]
    go_wp2_with fail
    go_region
    go_wp2_with fail
    refine bodyPost_ret (v := .tuple #[.string sa, .string sb, .bool true]) ?_ rfl ⟨_, _, rfl, (fun p' q' h => ?_), (HSET.out.2.2.2.below HB1.out (by omega) (by omega)).drew⟩
    · exact results_strs rfl _ _ (w.heap.size + 1) (w.heap.size + 1 + 1) _ _ _ rfl rfl (cell_of HSET.out.2.1 0 rfl) rfl (cell_of HSET.out.2.2.1 0 rfl)
    · simp only [Option.some.injEq, Prod.mk.injEq] at h
      exact ⟨by rw [HS.out.1, h.1], by rw [HS.out.2, h.2]⟩
theorem treeF_node (L : Nat → List UInt8) (f b e : Nat) (h2 : 2 ≤ e - b) (hf : e - b ≤ f + 1) : treeF spL L f b e = shaL (nodeT (treeF spL L f b (b + spL (e - b))) (treeF spL L f (b + spL (e - b)) e)) := by
  obtain ⟨k1, k2⟩ := spL_mid' h2
  cases f with
  | zero => omega
  | succ f =>
    rw [treeF, if_neg (by omega), treeF_fuel L f (f + 1) b _ (by omega) (by omega) (by omega), treeF_fuel L f (f + 1) _ e (by omega) (by omega) (by omega)]
def SoPost (T : List UInt8) (w : World) (x : Ending) (w' : World) : Prop := ∃ s, x = .returned (.tuple #[.string s, .string s, .bool false]) ∧ shaL (bs s) = T ∧ (bs s).length ≤ 4611686018427387000 ∧ Below w.heap.size w w'
set_option maxHeartbeats 1000000 in
set_option maxRecDepth 100000 in
theorem so_any (S : Nat → Addr) (lb Z : Nat) (ls : List ByteArray) (w : World) (hF : FW S w) (hL : LogAt w lb ls) (hl4 : ls.length ≤ 400) (hls : ∀ s ∈ ls, s.size ≤ 65536) (hZ0 : 0 < Z) (hZ : Z ≤ ls.length) :
    Calls Tryd.prog 19 #[.pointer (some ⟨lb, 0, none⟩), .int .u64 (Z : Int)] w fun x w' => SoPost (treeF spL (lf ls) Z 0 Z) w x w' := by
  obtain ⟨s, hs⟩ : ∃ s, ls[0]? = some s := ⟨_, List.getElem?_eq_getElem (by omega)⟩
  have hss := hls s (List.mem_of_getElem? hs)
  have HLF := Lib.hid (by
    have h := leaf_log S lb ls 0 w hL (by omega) hF
    rw [if_pos (by omega), show ls.getD 0 ⟨#[]⟩ = s by rw [List.getD_eq_getElem?_getD, hs]; rfl] at h
    exact h : Calls Tryd.prog 18 #[.pointer (some ⟨lb, 0, none⟩), .int .u64 0] w fun e w' => e = .returned (.tuple #[.string s, .nilIface]) ∧ Below w.heap.size w w')
  have z0 : ¬ (Z : Int) = 0 := by omega
  have g1 : ¬ (9223372036854775807 : Int) < 1 + (s.size : Int) := by omega
  obtain ⟨y, hy⟩ : ∃ y, (({ data := #[0] } : ByteArray) ++ s) = y := ⟨_, rfl⟩
  by_cases h1 : Z < 2
  · have HLY := Lib.hid (show (bs y).length ≤ 4611686018427387000 by
      rw [← hy, bs_leaf]
      simp only [leafT, bs, List.length_cons, Array.length_toList]
      have : s.data.size = s.size := rfl
      omega)
    have HR := Lib.hid (show shaL (bs y) = treeF spL (lf ls) Z 0 Z by
      rw [← hy, bs_leaf, treeF_fuel (lf ls) Z 0 0 Z hZ0 (by omega) (by omega)]
      simp only [treeF]
      rw [lf_at hs])
    have HSP := Lib.hid fun W => (by
      have h := split_any Z (by omega) W
      rw [splitV, if_neg (by omega)] at h
      exact h : Calls Tryd.prog 30 #[.int .u64 (Z : Int)] W fun e w' => e = .returned (.tuple #[.int .u64 0, .bool false]) ∧ W = w')
    clear hF hL hls hs h1
    go_enter Tryd.func19, Tryd.ntmps19
    go_wp2_with (go_at_call 18; refine HLF.out.mono ?_)
    first
      | rintro x w1 rfl hb1
      | rintro x w1 ⟨rfl, hb1⟩
    have HB1 := Lib.hid hb1
    clear hb1
    go_wp2_with (go_at_call 30; refine (HSP.out _).mono ?_; rintro x w' ⟨rfl, rfl⟩)
    exact bodyPost_ret (results_tmp3 rfl _ _ _) rfl ⟨y, rfl, HR.out, HLY.out, HB1.out⟩
  · have h2 : 2 ≤ Z := by omega
    obtain ⟨k1, k2⟩ := spL_mid' (show 2 ≤ Z - 0 by omega)
    rw [show Z - 0 = Z from rfl] at k1 k2
    have hnode := treeF_node (lf ls) Z 0 Z (by omega) (by omega)
    rw [show Z - 0 = Z from rfl, Nat.zero_add] at hnode
    rw [Nat.zero_add] at k2
    have HT : ∀ (x y : Nat) (hxy : x < y) (hy : y ≤ ls.length) (hfu : y - x ≤ Z + 1) (W : World) (hW : Below w.heap.size w W), Calls Tryd.prog 23 #[.pointer (some ⟨lb, 0, none⟩), spanV x y] W fun z w' => z = .returned (.tuple #[.agg (Lib.byteCells (treeF spL (lf ls) Z x y)).toArray, .nilIface]) ∧ Below W.heap.size W w' := fun x y hxy hy hfu W hW => by
      refine (tree_any S lb ls x y W (hF.below hW) (hL.below hW) hl4 hls (by omega) (by omega)).mono ?_
      rintro z w' ⟨T, rfl, _, hT, hb⟩
      rw [if_pos hy, hT hxy hy Z hfu]
      exact ⟨rfl, hb⟩
    have HT1 := Lib.hid (HT 0 (spL Z) (by omega) (by omega) (by omega))
    have HT2 := Lib.hid (HT (spL Z) Z (by omega) (by omega) (by omega))
    have HPL := Lib.hid (treeF_len' (lf ls) Z 0 (spL Z))
    have HQL := Lib.hid (treeF_len' (lf ls) Z (spL Z) Z)
    obtain ⟨P, hP⟩ : ∃ P, treeF spL (lf ls) Z 0 (spL Z) = P := ⟨_, rfl⟩
    obtain ⟨Q, hQ⟩ : ∃ Q, treeF spL (lf ls) Z (spL Z) Z = Q := ⟨_, rfl⟩
    rw [hP, hQ] at hnode
    rw [hP] at HT1 HPL
    rw [hQ] at HT2 HQL
    have HR := Lib.hid hnode
    have HSP := Lib.hid fun W => (by
      have h := split_any Z (by omega) W
      rw [splitV, if_pos h2] at h
      exact h : Calls Tryd.prog 30 #[.int .u64 (Z : Int)] W fun e w' => e = .returned (.tuple #[.int .u64 (spL Z : Int), .bool true]) ∧ W = w')
    obtain ⟨X, hX⟩ : ∃ X, textS P Q = X := ⟨_, rfl⟩
    have HX := Lib.hid (show bs X = nodeT P Q by rw [← hX]; exact bs_text P Q)
    have HTX := Lib.hid (fun W => (by
      have h := text_any P Q HPL.out HQL.out W
      rw [hX] at h
      exact h : Calls Tryd.prog 31 #[.agg (Lib.byteCells P).toArray, .agg (Lib.byteCells Q).toArray] W fun e w' => e = .returned (.string X) ∧ Below W.heap.size W w'))
    unfold spanV at HT1 HT2
    clear HT hF hL hls hs h1 h2 hP hQ hX hnode k1 k2
    generalize spL Z = k at *
    go_enter Tryd.func19, Tryd.ntmps19
    go_wp2_with (go_at_call 18; refine HLF.out.mono ?_)
    first
      | rintro x w1 rfl hb1
      | rintro x w1 ⟨rfl, hb1⟩
    have HB1 := Lib.hid hb1
    clear hb1
    go_wp2_with (first | (go_at_call 30; refine (HSP.out _).mono ?_; rintro x w' ⟨rfl, rfl⟩) | (go_at_call 23; refine (HT1.out w1 HB1.out).mono ?_))
    first
      | rintro x w2 rfl hb2
      | rintro x w2 ⟨rfl, hb2⟩
    go_upto_region 8 with (refine wpList_hash (by rfl) (.tmp 11) (.tmp 35) (by rfl) (by rfl) (by rfl) (hash_size HPL.out) (by rfl) (byteCells_one P) ?_)
    have H11 := Lib.hid (heap_one w2 (.cells (Lib.byteCells P).toArray 33))
    have HB3 := Lib.hid ((HB1.out.trans (hb2.mono HB1.out.size)).alloc (Nat.le_trans HB1.out.size hb2.size) (.cells (Lib.byteCells P).toArray 33))
    clear hb2
    generalize w2.alloc (.cells (Lib.byteCells P).toArray 33) = w3 at *
    go_wp2_with (go_at_call 23; refine (HT2.out w3 HB3.out).mono ?_)
    first
      | rintro x w4 rfl hb4
      | rintro x w4 ⟨rfl, hb4⟩
    go_upto_region 9 with (refine wpList_hash (by rfl) (.tmp 13) (.tmp 43) (by rfl) (by rfl) (by rfl) (hash_size HQL.out) (by rfl) (byteCells_one Q) ?_)
    have H13 := Lib.hid (heap_one w4 (.cells (Lib.byteCells Q).toArray 33))
    have hb5 := hb4.trans ((below_one w4 (.cells (Lib.byteCells Q).toArray 33)).mono hb4.size)
    have H11 := Lib.hid (below_heap hb5 H11.out)
    have HB5 := Lib.hid (HB3.out.trans (hb5.mono HB3.out.size))
    clear hb4 hb5
    generalize w4.alloc (.cells (Lib.byteCells Q).toArray 33) = w5 at *
    go_wp2_with (first | (refine wpList_load_row (by rfl) 33 (.tmp 11) (by rfl) w2.heap.size (by rfl) 33 (Lib.byteCells P).toArray (0, 0) _ H11.out Tryd.underlying33 rfl (by rw [hash_size HPL.out]; exact hashInfo) ?_) | (refine wpList_load_row (by rfl) 33 (.tmp 13) (by rfl) w4.heap.size (by rfl) 33 (Lib.byteCells Q).toArray (0, 0) _ H13.out Tryd.underlying33 rfl (by rw [hash_size HQL.out]; exact hashInfo) ?_) | (go_at_call 31; refine (HTX.out w5).mono ?_))
    first
      | rintro x w6 rfl hb6
      | rintro x w6 ⟨rfl, hb6⟩
    have HB6 := Lib.hid (HB5.out.trans (hb6.mono HB5.out.size))
    clear hb6
    go_wp2_with fail
    exact bodyPost_ret (results_tmp3 rfl _ _ _) rfl ⟨X, rfl, by rw [HX.out]; exact HR.out.symm, by rw [HX.out]; simp [nodeT, HPL.out, HQL.out], HB6.out⟩
end Go.Proofs.YthcccgbodceeeaaDoor
