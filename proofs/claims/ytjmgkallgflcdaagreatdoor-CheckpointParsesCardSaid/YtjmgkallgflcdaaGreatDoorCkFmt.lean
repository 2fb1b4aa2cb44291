/-
  checkpoint.Format by its contract.
-/
import Derived.Test.YtjmgkallgflcdaaGreatDoorCkParse
import Derived.Test.YtjmgkallgflcdaaGreatDoorSameT
import Derived.Test.YtjmgkallgflcdaaGreatDoorB64
import Derived.Test.YtjmgkallgflcdaaGreatDoorFmt
import Derived.Test.YtjmgkallgflcdaaGreatDoorNumP
import Derived.Test.YtjmgkallgflcdaaGreatDoorShelf
import Derived.Deep.AppendLies
import Derived.Deep.RegionHeld3
import Derived.Deep.Cut
import Derived.BigQuiet
namespace Go.Proofs.YtjmgkallgflcdaaGreatDoor
open Go.RowKit

/-- A further line of a checkpoint. -/
def extraB (l : List UInt8) : Bool := decide (l ≠ []) && plainOf l
def ckText (st : CkSt) : List UInt8 := Lib.join (st.1 :: Lib.decDigits st.2.1 :: b64 st.2.2.1 :: st.2.2.2) [10] ++ [10]
/-- Format. -/
def fmtCk (st : CkSt) : List UInt8 × Nat :=
  if nameOf st.1 = true then
    if st.2.2.2.all extraB = true then
      if 1048576 < st.2.1 ∨ 16 < st.2.2.2.length then ([], 4) else (ckText st, 0)
    else ([], 2)
  else ([], 2)

/-- Texts behind a row of the call's own: append, wherever they lie. -/
theorem run_append_texts {W : World} {B g n cap : Nat} {xs : List Value} {ev : Value} {L : List (List UInt8)} (hown : W.ownsRow B 9 1 (.slice (some ⟨g, 0, none⟩) n cap) n xs) (hT : TextsIn W ev L) (h63 : n + L.length ≤ 4294967296) (hB : B ≤ W.heap.size) (ty : TypeId) :
    ∃ g' cap' W', (Builtin.append_ #[25, 25] ty #[.slice (some ⟨g, 0, none⟩) n cap, ev]).run Tryz.prog W = .ok (.slice (some ⟨g', 0, none⟩) (n + L.length) cap') W' ∧
      W'.ownsRow B 9 1 (.slice (some ⟨g', 0, none⟩) (n + L.length) cap') (n + L.length) (xs ++ L.map fun l => .string ⟨l.toArray⟩) ∧ W.grownBy W' (some g) := by
  obtain ⟨i0, hi, hz⟩ := Option.map_eq_some_iff.1 infoString
  simp only [Prod.mk.injEq] at hz
  obtain ⟨hz0, hz1, hz2⟩ := hz
  obtain ⟨ao, c, rfl, hc⟩ := hT
  by_cases hL : L = []
  · subst hL
    simp only [List.length_nil, Nat.add_zero, List.map_nil, List.append_nil]
    refine ⟨g, cap, W, ?_, hown, ⟨rfl, rfl, rfl, Nat.le_refl _, fun _ _ _ => rfl⟩⟩
    have hcap : n ≤ cap := by
      rcases hown.2 with ⟨h, _⟩ | ⟨g', cap', cur, h, _, _, h1, _⟩
      · cases h
      · cases h; exact h1
    have ht : Tryz.prog.underlying 25 = some (.slice 9) := Tryz.underlying25
    have ht2 : Tryz.prog.underlying 25 = some (.slice 9) := ht
    cases ao <;> simp [Builtin.append_, run_underlying ht, sizeOf, typeInfo, hi, Builtin.lenOf, Builtin.firstCells, loadCells, loadCellsFrom, storeCells, hcap]
  · obtain ⟨b, off, rfl, hcells⟩ := hc hL
    have hm : 0 < L.length := List.length_pos_iff.2 hL
    have hadd : ∀ j, (⟨b, off, none⟩ : Addr).add j = ⟨b, off + j, none⟩ := fun j => by simp [Addr.add]
    obtain ⟨g', cap', W', h1, h2, h3, _, _⟩ := run_append_lies (P := Tryz.prog) W 25 ty B 9 i0 (.string ⟨#[]⟩) 1 16 Tryz.underlying25 hi hz0 hz1 hz2 rfl (by decide) _ n xs hown ⟨b, off, none⟩ L.length c (L.map fun l => .string ⟨l.toArray⟩) (by simp) (fun j u hu => by
      rw [hadd]
      rw [List.getElem?_map, Option.map_eq_some_iff] at hu
      obtain ⟨x, hx, rfl⟩ := hu
      exact hcells j x hx) (fun u hu => by
      obtain ⟨x, _, rfl⟩ := List.mem_map.1 hu
      rfl) hm (by unfold maxLen; omega) (by omega) hB _ rfl
    exact ⟨g', cap', W', h1, h2, h3⟩
/-- At a step of a region that draws. -/
theorem step_append_texts {ops : Array Oper} {o : Oper} {a : Act} {K : Act → World → Prop} {Q : Exit → Act → World → Prop} {E : Prop} (hgd : o.guard = none) (s x : Operand)
    (ho : o.op = .call { callee := .builtin .append, args := #[s, x], argTypes := #[25, 25] }) {W : World} {B g n cap : Nat} {xs : List Value} {ev : Value} {L : List (List UInt8)}
    (hs : a.eval s = .slice (some ⟨g, 0, none⟩) n cap) (hown : W.ownsRow B 9 1 (.slice (some ⟨g, 0, none⟩) n cap) n xs) (hx : a.eval x = ev) (hT : TextsIn W ev L) (h63 : n + L.length ≤ 4294967296) (hB : B ≤ W.heap.size)
    (h : ∀ g' cap' W', W'.ownsRow B 9 1 (.slice (some ⟨g', 0, none⟩) (n + L.length) cap') (n + L.length) (xs ++ L.map fun l => .string ⟨l.toArray⟩) → W.grownBy W' (some g) → K (a.put o.dst (.slice (some ⟨g', 0, none⟩) (n + L.length) cap')) W') :
    if Region.wanted o (yielded ops a.tmps) = true then Oper.wp Tryz.prog o a W K Q else E := by
  have hw : Region.wanted o (yielded ops a.tmps) = true := by simp [Region.wanted, hgd]
  rw [if_pos hw]
  obtain ⟨g', cap', W', hr, h2, h3⟩ := run_append_texts hown hT h63 hB o.type
  unfold Oper.wp execOp
  simp only [ho, resolve, invoke, builtin, Sem.run_bind, Sem.run_pure, Result.andThen_ok, List.map_toArray, List.map_cons, List.map_nil, hs, hx, hr]
  exact h g' cap' W' h2 h3

/-- What Join's bound wants. -/
theorem extra_len {L : List (List UInt8)} (h : L.all extraB = true) : ∀ x ∈ L, x.length ≤ 4096 := fun x hx => by
  have := List.all_eq_true.1 h x hx
  unfold extraB plainOf at this
  simp only [Bool.and_eq_true, decide_eq_true_eq] at this
  exact this.2.1
theorem joinTail_length (L : List (List UInt8)) (m : Nat) (h : ∀ x ∈ L, x.length ≤ m) : (Lib.joinTail [10] L).length ≤ L.length * (m + 1) := by
  induction L with
  | nil => simp [Lib.joinTail]
  | cons x r ih =>
    have h1 := h x (List.mem_cons_self ..)
    have h2 := ih fun y hy => h y (List.mem_cons_of_mem _ hy)
    unfold Lib.joinTail at h2 ⊢
    rw [List.map_cons, List.flatten_cons, List.length_append, List.length_cons, Nat.succ_mul]
    simp only [List.length_append, List.length_cons, List.length_nil]
    omega
theorem ckText_bound {o : List UInt8} {z : Nat} {root : List UInt8} {L : List (List UInt8)} (ho : nameOf o = true) (hz : z ≤ 1048576) (hr : root.length = 32) (hL : L.all extraB = true) (h16 : L.length ≤ 16) : (Lib.join (o :: Lib.decDigits z :: b64 root :: L) [10]).length ≤ 70000 := by
  rw [Lib.join_cons, List.length_append]
  have h1 : o.length ≤ 64 := by
    unfold nameOf at ho
    simp only [Bool.and_eq_true, decide_eq_true_eq] at ho
    exact ho.1.2
  have h2 := joinTail_length L 4096 (extra_len hL)
  have h3 : (Lib.decDigits z).length ≤ 20 := by
    rw [Lib.decDigits_length]
    exact nDigits_20 z (by omega)
  have h4 : (b64 root).length = 44 := by rw [b64_length, hr]
  have h5 : (Lib.joinTail [10] (Lib.decDigits z :: b64 root :: L)).length = (Lib.decDigits z).length + 1 + ((b64 root).length + 1 + (Lib.joinTail [10] L).length) := by
    unfold Lib.joinTail
    simp only [List.map_cons, List.flatten_cons, List.length_append, List.length_cons, List.length_nil]
    omega
  have h6 : L.length * (4096 + 1) ≤ 16 * 4097 := Nat.mul_le_mul_right _ h16
  omega
theorem TextsIn.cell {w : World} {v : Value} {L : List (List UInt8)} (h : TextsIn w v L) : ∃ ao c, v = .slice ao L.length c ∧ (L ≠ [] → ∃ b off, ao = some ⟨b, off, none⟩ ∧ ∀ k x, L[k]? = some x → w.cell? ⟨b, off + k, none⟩ = some (.string ⟨x.toArray⟩)) := h

set_option maxHeartbeats 2000000 in
set_option maxRecDepth 100000 in
theorem format_any (S : Nat → Addr) (w : World) (o : List UInt8) (z : Nat) (root : List UInt8) (L : List (List UInt8)) (ev : Value) (hroot : root.length = 32) (hT : TextsIn w ev L) (hz : z ≤ 18446744073709551615) (hlo : o.length ≤ 9223372036854775807) (hlL : L.length ≤ 4611686018427387904) (hle : ∀ x ∈ L, x.length ≤ 9223372036854775807) (hB : Base S w) (htab : Tab w) :
    Calls Tryz.prog 9 #[.agg (ckList ⟨o.toArray⟩ (z : Int) (Lib.byteCells root) ev).toArray] w fun e w' => ∃ er, e = .returned (.tuple #[.string ⟨(fmtCk (o, z, root, L)).1.toArray⟩, er]) ∧ Below w.heap.size w w' ∧ ErrAt S w' er (fmtCk (o, z, root, L)).2 none := by
  have hW : Below w.heap.size w (w.alloc (.cells (ckList ⟨o.toArray⟩ (z : Int) (Lib.byteCells root) ev).toArray 27)) := (Below.refl _ _).alloc (Nat.le_refl _) _
  have hrow : CkRow (w.alloc (.cells (ckList ⟨o.toArray⟩ (z : Int) (Lib.byteCells root) ev).toArray 27)) w.heap.size ⟨o.toArray⟩ (z : Int) (Lib.byteCells root) ev := ⟨by rw [Lib.byteCells_length, hroot], heap_alloc_new w _⟩
  have hsz1 : (w.alloc (.cells (ckList ⟨o.toArray⟩ (z : Int) (Lib.byteCells root) ev).toArray 27)).heap.size = w.heap.size + 1 := by simp
  obtain ⟨c0, c1, c34, _⟩ := hrow.cells
  have HN := Lib.hid (name_any S ⟨o.toArray⟩ _ (by show o.toArray.size ≤ _; simpa using hlo) (hB.below hW))
  have g2 := hB.var 2 (by omega) (by omega)
  have g4 := hB.var 4 (by omega) (by omega)
  have HROW := Lib.hid hrow
  have HB := Lib.hid hB
  have HW := Lib.hid hW
  have HTAB := Lib.hid htab
  have HLE := Lib.hid hle
  have HT := Lib.hid hT
  clear hrow hB hW htab hle hT
  go_enter Tryz.func9, Tryz.ntmps9
  generalize hWd : w.alloc (.cells (ckList ⟨o.toArray⟩ (z : Int) (Lib.byteCells root) ev).toArray 27) = W1 at *
  go_wp2_with fail
  refine HN.out.mono ?_
  rintro e w2 ⟨rfl, b2⟩
  have hB2 := (HB.out.below HW.out).below b2
  have hb2 : Below w.heap.size w w2 := HW.out.trans (b2.mono HW.out.size)
  have HB2 := Lib.hid hB2
  have c34' := below_cell b2 c34
  have c1' := below_cell b2 c1
  have g2' := hB2.var 2 (by omega) (by omega)
  have g4' := hB2.var 4 (by omega) (by omega)
  simp only [errG, errV] at g2' g4'
  have HB2W := Lib.hid hb2
  have HBW2 := Lib.hid b2
  clear hB2 hb2 g2 g4 c0 c1 c34 HN b2
  cases hno : nameOf o with
  | false =>
    have HFM2 := Lib.hid (show fmtCk (o, z, root, L) = ([], 2) by unfold fmtCk; rw [if_neg (by simp [hno])])
    clear hno
    go_wp2_with fail
    go_quiet (fail)
    go_wp2_with fail
    go_ret2
    rw [HFM2.out]
    exact ⟨_, rfl, below_drewN HB2W.out _, .inr (.inl ⟨by decide, by decide, rfl, rfl⟩)⟩
  | true =>
    have HNO := Lib.hid hno
    clear hno
    obtain ⟨ao, c, rfl, hcells⟩ := HT.out
    have HCL := Lib.hid hcells
    clear hcells
    go_wp2_with fail
    go_loopw [15] (fun i wr => ∃ k : Nat, i = .int .i64 k ∧ k ≤ L.length ∧ (L.take k).all extraB = true ∧ Below w2.heap.size w2 wr) (fun i _ => L.length - (intOf i).toNat)
    case atStart => exact ⟨0, rfl, by omega, rfl, Below.refl _ _⟩
    case round =>
      obtain ⟨k, rfl, hk, hall, hbr⟩ := hrel
      have HALL := Lib.hid hall
      have HBR := Lib.hid hbr
      have hbw : Below w.heap.size w wr := HB2W.out.trans (hbr.mono HB2W.out.size)
      have HBW := Lib.hid hbw
      have g2 := below_cell hbr g2'
      clear hall
      by_cases hlt : k < L.length
      · obtain ⟨x, hx⟩ : ∃ x, L[k]? = some x := ⟨_, List.getElem?_eq_getElem hlt⟩
        obtain ⟨b, off, rfl, hc⟩ := HCL.out (fun e => by rw [e] at hlt; simp at hlt)
        have e1 := below_cell hbw (hc k x hx)
        have hxm : x ∈ L := List.mem_of_getElem? hx
        have HXM := Lib.hid hxm
        have HX := Lib.hid hx
        have hxl := HLE.out x hxm
        have hsx : (⟨x.toArray⟩ : ByteArray).size = x.length := by show x.toArray.size = _; simp
        have HPL := Lib.hid (plain_any S ⟨x.toArray⟩ wr (by rw [hsx]; exact hxl) (HB2.out.below hbr))
        have hxd : (⟨x.toArray⟩ : ByteArray).data.toList = x := by simp
        have HXD := Lib.hid hxd
        have htl : (⟨x.toArray⟩ : ByteArray).toList = x := by rw [ByteArray.toList_eq]
        have i0 : (0 : Int) ≤ (k : Int) := by omega
        have i1 : (k : Int) < (L.length : Int) := by omega
        rw [hxd] at HPL
        clear hc hx hxm hxl hsx hbr hbw hxd
        by_cases hxe : x = []
        · have HFM2 := Lib.hid (show fmtCk (o, z, root, L) = ([], 2) by
            unfold fmtCk
            rw [if_pos HNO.out, if_neg (fun h => by have := List.all_eq_true.1 h x HXM.out; simp [extraB, hxe] at this)])
          have HN0 := Lib.hid hlt
          clear HPL HXM HX HXD
          subst hxe
          go_wp2_with fail
          go_quiet (fail)
          go_wp2_with fail
          go_ret2
          rw [HFM2.out]
          exact ⟨_, rfl, below_drewN HBW.out _, .inr (.inl ⟨by decide, by decide, rfl, rfl⟩)⟩
        · generalize (⟨x.toArray⟩ : ByteArray) = xs at *
          have hne : xs.toList.isEmpty = false := by rw [htl]; simpa using hxe
          have hne2 : ¬ xs.toList = [] := by rw [htl]; exact hxe
          have HXE := Lib.hid hxe
          clear htl hxe
          cases hpx : plainOf x with
          | false =>
            have HFM2 := Lib.hid (show fmtCk (o, z, root, L) = ([], 2) by
              unfold fmtCk
              rw [if_pos HNO.out, if_neg (fun h => by have := List.all_eq_true.1 h x HXM.out; simp [extraB, hpx] at this)])
            rw [hpx] at HPL
            clear hpx
            go_wp2_with fail
            refine HPL.out.mono ?_
            rintro e w3 ⟨rfl, b3⟩
            have g2 := below_cell b3 g2
            have HB3 := Lib.hid b3
            go_wp2_with fail
            go_quiet (fail)
            go_wp2_with fail
            go_ret2
            rw [HFM2.out]
            exact ⟨_, rfl, below_drewN (HBW.out.trans (HB3.out.mono HBW.out.size)) _, .inr (.inl ⟨by decide, by decide, rfl, rfl⟩)⟩
          | true =>
            have HPX := Lib.hid hpx
            rw [hpx] at HPL
            clear hpx
            go_wp2_with fail
            refine HPL.out.mono ?_
            rintro e w3 ⟨rfl, b3⟩
            have HB3 := Lib.hid b3
            clear b3
            go_wp2_with fail
            go_roundw
            case rel => exact ⟨k + 1, by go_num, by omega, by rw [List.take_add_one, List.all_append, HALL.out, HX.out]; simp [extraB, HXE.out, HPX.out], HBR.out.trans (HB3.out.mono HBR.out.size)⟩
            case measure => simp [intOf]; omega
      · obtain rfl : k = L.length := by omega
        have hall := HALL.out
        rw [List.take_length] at hall
        have HA := Lib.hid hall
        have g4 := below_cell hbr g4'
        have c1 := below_cell hbr c1'
        have hsz2 := HBW2.out.size
        have hsz3 := hbr.size
        have hrow3 := (HROW.out.below HBW2.out).below hbr
        obtain ⟨c0, _, c34, fz⟩ := hrow3.cells
        have hT3 : TextsIn wr (.slice ao L.length c) L := HT.out.below hbw
        have HT3 := Lib.hid hT3
        have HR3 := Lib.hid hrow3
        have HBB := Lib.hid (HB2.out.below hbr)
        clear hbr hbw hrow3 hT3 hall
        by_cases hzz : 1048576 < z
        · have hzz' : (1048576 : Int) < (z : Int) := by omega
          have HFM2 := Lib.hid (show fmtCk (o, z, root, L) = ([], 4) by
            unfold fmtCk
            rw [if_pos HNO.out, if_pos HA.out, if_pos (.inl hzz)])
          clear hzz
          go_wp2_with fail
          go_quiet (fail)
          go_wp2_with fail
          go_ret2
          rw [HFM2.out]
          exact ⟨_, rfl, below_drewN HBW.out _, .inr (.inl ⟨by decide, by decide, rfl, rfl⟩)⟩
        · have hzz' : ¬ (1048576 : Int) < (z : Int) := by omega
          by_cases hll : 16 < L.length
          · have hll' : (16 : Int) < (L.length : Int) := by omega
            have HFM2 := Lib.hid (show fmtCk (o, z, root, L) = ([], 4) by
              unfold fmtCk
              rw [if_pos HNO.out, if_pos HA.out, if_pos (.inr hll)])
            clear hll hzz
            go_wp2_with fail
            go_quiet (fail)
            go_wp2_with fail
            go_ret2
            rw [HFM2.out]
            exact ⟨_, rfl, below_drewN HBW.out _, .inr (.inl ⟨by decide, by decide, rfl, rfl⟩)⟩
          · have hll' : ¬ (16 : Int) < (L.length : Int) := by omega
            have HFM2 := Lib.hid (show fmtCk (o, z, root, L) = (ckText (o, z, root, L), 0) by
              unfold fmtCk
              rw [if_pos HNO.out, if_pos HA.out, if_neg (fun h => h.elim hzz hll)])
            have HZ := Lib.hid hzz
            have HL16 := Lib.hid hll
            clear hll hzz
            go_wp2_with fail
            have hkeep : ∀ W', Below wr.heap.size wr W' → Below wr.heap.size wr W' ∧ W'.cell? ⟨w.heap.size, 0, none⟩ = some (.string ⟨o.toArray⟩) ∧ W'.cell? ⟨w.heap.size, 1, none⟩ = some (.int .u64 (z : Int)) ∧ W'.cell? ⟨w.heap.size, 34, none⟩ = some (.slice ao L.length c) ∧
                (convert 77 9 (.slice (some ⟨w.heap.size, 2, none⟩) 32 32)).run Tryz.prog W' = .ok (.string ⟨root.toArray⟩) W' := fun W' hb => by
              refine ⟨hb, below_cell hb c0, below_cell hb c1, below_cell hb c34, ?_⟩
              have h := run_convert_bytes_back (P := Tryz.prog) W' 77 9 5 ⟨w.heap.size, 2, none⟩ 32 root Tryz.underlying77 Tryz.underlying5 Tryz.underlying9 (fun j hj => by
                show W'.cell? ((⟨w.heap.size, 2, none⟩ : Addr).add j) = _
                have hadd : (⟨w.heap.size, 2, none⟩ : Addr).add j = ⟨w.heap.size, 2 + j, none⟩ := by simp [Addr.add]
                rw [hadd, cell_of_row _ _ (2 + j) _ _ _ (HR3.out.below hb).2]
                simp [ckList, Lib.byteCells, Nat.add_comm 2 j, List.getElem?_append_left, hj])
              rw [hroot] at h
              exact h
            have k0 := hkeep wr (Below.refl _ _)
            obtain ⟨_, _, _, _, hcv⟩ := k0
            have HK := Lib.hid hkeep
            have HTR := Lib.hid (show Tab wr.drew from (tab_below HTAB.out HBW.out : Tab wr))
            have h64 : ((⟨root.toArray⟩ : ByteArray).size + 2) / 3 * 4 ≤ 140737488355328 := by
              have : (⟨root.toArray⟩ : ByteArray).size = 32 := by show root.toArray.size = 32; simpa using hroot
              rw [this]; omega
            have hl63 : 3 + L.length ≤ 4294967296 := by have := HL16.out; omega
            clear hkeep
            go_region_held3 (fun W' => Below wr.heap.size wr W' ∧ W'.cell? ⟨w.heap.size, 0, none⟩ = some (.string ⟨o.toArray⟩) ∧ W'.cell? ⟨w.heap.size, 1, none⟩ = some (.int .u64 (z : Int)) ∧ W'.cell? ⟨w.heap.size, 34, none⟩ = some (.slice ao L.length c) ∧
                (convert 77 9 (.slice (some ⟨w.heap.size, 2, none⟩) 32 32)).run Tryz.prog W' = .ok (.string ⟨root.toArray⟩) W')
              (first | exact HK.out _ (Below.refl _ _) | exact HK.out _ (below_drewN (Below.refl _ _) 1) | exact HK.out _ hb5 | exact HK.out _ (hb4.alloc hb4.size _) | exact HK.out _ hb4 | exact HK.out _ hb3)
              (first | (go_at_call 27; refine (decimal_any z hz _ HTR.out).mono ?_; rintro e w3 ⟨rfl, b3⟩; have hb3 : Below wr.heap.size wr w3 := (below_drewN (Below.refl _ _) 1).trans b3) | (go_at_call 28; refine (base64_any ⟨root.toArray⟩ _ h64).mono ?_; rintro e w4 ⟨rfl, b4⟩; have hb4 : Below wr.heap.size wr w4 := hb3.trans (b4.mono hb3.size)) | (refine step_append_texts (by rfl) (.tmp 47) (.tmp 49) (by rfl) (by rfl) (World.ownsRow_lit (base := wr.heap.size) (e := 9) (size := 1) w4 #[.string ⟨o.toArray⟩, .string ⟨(Lib.decDigits z).toArray⟩, .string ⟨(b64 root).toArray⟩] 3 hb4.size (by decide) rfl) (by rfl) (HT3.out.below (hb4.alloc hb4.size _)) hl63 (by have := hb4.size; simp; omega) ?_; intro g' cap' W5 hown5 hgrow5; have hb5 : Below wr.heap.size wr W5 := (hb4.alloc hb4.size _).grown hgrow5 (by have := hb4.size; simp; omega) (fun j hj => by cases hj; exact hb4.size)))
            have hxl : ((o :: Lib.decDigits z :: b64 root :: L).map fun l => (⟨l.toArray⟩ : ByteArray)).length = 3 + L.length := by simp; omega
            have hdt : ((o :: Lib.decDigits z :: b64 root :: L).map fun l => (⟨l.toArray⟩ : ByteArray)).map (·.data.toList) = o :: Lib.decDigits z :: b64 root :: L := by
              rw [List.map_map]
              exact List.map_id'' (fun l => by simp) _
            have hjl := ckText_bound (L := L) HNO.out (show z ≤ 1048576 by have := HZ.out; omega) hroot HA.out (by have := HL16.out; omega)
            have hJ := Tryz.strings_Join g' 0 cap' ((o :: Lib.decDigits z :: b64 root :: L).map fun l => (⟨l.toArray⟩ : ByteArray)) ⟨#[10]⟩ W5 (fun j x hx => by
              have hj : j < (3 + L.length) * 1 := by
                rw [← hxl, Nat.mul_one]
                exact (List.getElem?_eq_some_iff.1 hx).1
              rw [Nat.zero_add, hown5.cellAt j hj]
              have he : (#[Value.string ⟨o.toArray⟩, .string ⟨(Lib.decDigits z).toArray⟩, .string ⟨(b64 root).toArray⟩] : Array Value).toList ++ L.map (fun l => Value.string ⟨l.toArray⟩) = ((o :: Lib.decDigits z :: b64 root :: L).map fun l => (⟨l.toArray⟩ : ByteArray)).map Value.string := by simp
              rw [he, List.getElem?_map, hx]; rfl) (hown5.lt g' rfl).2 (by rw [hxl]; omega) (by
                rw [hxl]
                rcases hown5.2 with ⟨h, _⟩ | ⟨_, _, _, h, _, _, h1, _⟩
                · cases h
                · cases h; exact h1) (by rw [hdt]; show (Lib.join _ [10]).length ≤ _; omega)
            rw [hdt, hxl] at hJ
            have hJs : (⟨(Lib.join (o :: Lib.decDigits z :: b64 root :: L) [10]).toArray⟩ : ByteArray).size ≤ 70000 := by show (Lib.join _ _).toArray.size ≤ _; simpa using hjl
            have hck : ckText (o, z, root, L) = (⟨(Lib.join (o :: Lib.decDigits z :: b64 root :: L) [10]).toArray⟩ : ByteArray).data.toList ++ [10] := by simp [ckText]
            generalize (⟨(Lib.join (o :: Lib.decDigits z :: b64 root :: L) [10]).toArray⟩ : ByteArray) = J at hJ hJs hck
            have HCK := Lib.hid hck
            have HJ := Lib.hid hJ
            have HB5 := Lib.hid hb5
            clear hck hJ hjl hdt hxl hown5 hgrow5 hb5 b3 b4 hb3 hb4
            simp only [Exit.then]
            go_wp2_with fail
            refine HJ.out.mono ?_
            rintro e w6 ⟨rfl, b6⟩
            go_wp2_with fail
            go_ret2
            rw [HFM2.out]
            refine ⟨_, ?_, (HBW.out.trans (HB5.out.mono HBW.out.size)).trans (b6.mono (Nat.le_trans HBW.out.size HB5.out.size)), ErrAt.nil S _⟩
            rw [HCK.out]
            refine congrArg (fun t => Ending.returned (.tuple #[.string t, .nilIface])) (ByteArray.ext (Array.ext' ?_))
            rw [ByteArray.data_append]
            simp

end Go.Proofs.YtjmgkallgflcdaaGreatDoor
