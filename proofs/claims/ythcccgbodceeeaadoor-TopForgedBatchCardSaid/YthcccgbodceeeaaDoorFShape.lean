/-
  shape.Batch by its contract: the stretches outside of [B, E), in order.
-/
import Derived.Test.YthcccgbodceeeaaDoorFSplit
import Derived.ArgAppend
import Derived.Maps.AppendAt
import Derived.Deep.LoopGhost
namespace Go.Proofs.YthcccgbodceeeaaDoor
open Go.RowKit

def outs (B E b e : Nat) : List (Nat × Nat) := outsF spL B E (e - b) b e
theorem outsF_fuel (B E : Nat) : ∀ f g b e, b < e → e - b ≤ f + 1 → e - b ≤ g + 1 → outsF spL B E f b e = outsF spL B E g b e
  | 0, 0, _, _, _, _, _ => rfl
  | 0, g + 1, b, e, _, hf, _ => by
    simp only [outsF]
    by_cases h1 : e ≤ B ∨ E ≤ b
    · rw [if_pos h1, if_pos h1]
    · rw [if_neg h1, if_neg h1, if_pos (by omega)]
  | f + 1, 0, b, e, _, _, hg => by
    simp only [outsF]
    by_cases h1 : e ≤ B ∨ E ≤ b
    · rw [if_pos h1, if_pos h1]
    · rw [if_neg h1, if_neg h1, if_pos (by omega)]
  | f + 1, g + 1, b, e, hb, hf, hg => by
    simp only [outsF]
    by_cases h1 : e ≤ B ∨ E ≤ b
    · rw [if_pos h1, if_pos h1]
    · rw [if_neg h1, if_neg h1]
      by_cases h2 : B ≤ b ∧ e ≤ E
      · rw [if_pos h2, if_pos h2]
      · obtain ⟨k1, k2⟩ := spL_mid' (show 2 ≤ e - b by omega)
        rw [if_neg h2, if_neg h2, outsF_fuel B E f g b _ (by omega) (by omega) (by omega), outsF_fuel B E f g _ e (by omega) (by omega) (by omega)]
theorem outs_out {B E b e : Nat} (h : e ≤ B ∨ E ≤ b) : outs B E b e = [(b, e)] := by
  unfold outs
  cases e - b <;> simp only [outsF] <;> rw [if_pos h]
theorem outs_in2 {B E b e : Nat} (hb : b < e) (h2 : B ≤ b ∧ e ≤ E) : outs B E b e = [] := outs_inside spL B E _ b e h2.1 h2.2 hb
theorem outs_split {B E b e : Nat} (h1 : ¬ (e ≤ B ∨ E ≤ b)) (h2 : ¬ (B ≤ b ∧ e ≤ E)) (hn : 2 ≤ e - b) : outs B E b e = outs B E b (b + spL (e - b)) ++ outs B E (b + spL (e - b)) e := by
  obtain ⟨k1, k2⟩ := spL_mid' hn
  unfold outs
  obtain ⟨n, hn'⟩ : ∃ n, e - b = n + 1 := ⟨e - b - 1, by omega⟩
  rw [outsF_fuel B E (b + spL (e - b) - b) n b _ (by omega) (by omega) (by omega), outsF_fuel B E (e - (b + spL (e - b))) n _ e (by omega) (by omega) (by omega), hn', outsF, if_neg h1, if_neg h2, hn']
/-- What is still to come of a pile of stretches, the last first. -/
def pileOut (B E : Nat) (td : List (Nat × Nat)) : List (Nat × Nat) := td.reverse.flatMap fun s => outs B E s.1 s.2
theorem pileOut_snoc (B E : Nat) (td : List (Nat × Nat)) (s : Nat × Nat) : pileOut B E (td ++ [s]) = outs B E s.1 s.2 ++ pileOut B E td := by simp [pileOut]
def wt (td : List (Nat × Nat)) : Nat := (td.map fun s => 2 * (s.2 - s.1) - 1).sum
theorem wt_snoc (td : List (Nat × Nat)) (s : Nat × Nat) : wt (td ++ [s]) = wt td + (2 * (s.2 - s.1) - 1) := by simp [wt]
theorem wt_len : ∀ td : List (Nat × Nat), (∀ s ∈ td, s.1 < s.2) → td.length ≤ wt td
  | [], _ => Nat.le_refl _
  | s :: r, h => by
    have ih := wt_len r fun x hx => h x (List.mem_cons_of_mem _ hx)
    have := h s (List.mem_cons_self ..)
    unfold wt at ih ⊢
    simp only [List.length_cons, List.map_cons, List.sum_cons]
    omega
theorem outsF_len (B E : Nat) : ∀ f b e, b < e → e - b ≤ f + 1 → (outsF spL B E f b e).length ≤ e - b
  | 0, b, e, hb, _ => by
    simp only [outsF]
    split
    · simp; omega
    · simp
  | f + 1, b, e, hb, hf => by
    simp only [outsF]
    split
    · simp; omega
    · split
      · simp
      · obtain ⟨k1, k2⟩ := spL_mid' (show 2 ≤ e - b by omega)
        have h1 := outsF_len B E f b (b + spL (e - b)) (by omega) (by omega)
        have h2 := outsF_len B E f (b + spL (e - b)) e (by omega) (by omega)
        rw [List.length_append]
        omega
theorem outs_len {B E size : Nat} (h : 0 < size) : (outs B E 0 size).length ≤ size := by
  have := outsF_len B E (size - 0) 0 size h (by omega)
  unfold outs
  omega
/-- The cells of stretches. -/
def scells (l : List (Nat × Nat)) : List Value := l.flatMap fun s => [.int .u64 (s.1 : Int), .int .u64 (s.2 : Int)]
theorem scells_len : ∀ l : List (Nat × Nat), (scells l).length = l.length * 2
  | [] => rfl
  | s :: r => by
    have ih := scells_len r
    unfold scells at ih ⊢
    rw [List.flatMap_cons, List.length_append, ih]
    simp
    omega
theorem scells_snoc (l : List (Nat × Nat)) (s : Nat × Nat) : scells (l ++ [s]) = scells l ++ [.int .u64 (s.1 : Int), .int .u64 (s.2 : Int)] := by simp [scells]
theorem Tryd.infoSpan : (Tryd.prog.info? 65).map (fun i => (i.zero, i.size, i.bytes)) = some (some (.agg #[.int .u64 0, .int .u64 0]), 2, 16) := by kernel_rfl
def BatchRel (B E size : Nat) (w : World) (k : Nat) (lv tv : Value) (wr : World) : Prop :=
  ∃ L td, k = wt td ∧ wt td ≤ 800 ∧ L ++ pileOut B E td = outs B E 0 size ∧ (∀ s ∈ td, s.1 < s.2 ∧ s.2 ≤ size) ∧ wr.ownsRow w.heap.size 65 2 lv L.length (scells L) ∧ (∃ g cap, tv = .slice (some ⟨g, 0, none⟩) td.length cap ∧ td.length ≤ cap ∧ lv.ownBlock ≠ some g ∧ g < wr.heap.size ∧ wr.rangeAt g 0 (scells td)) ∧ Below w.heap.size w wr
/-- A slice of stretches. -/
def SpIn (W : World) (v : Value) (l : List (Nat × Nat)) : Prop :=
  ∃ ao cap, v = .slice ao l.length cap ∧ (l ≠ [] → ∃ g, ao = some ⟨g, 0, none⟩ ∧ W.rangeAt g 0 (scells l))
theorem spIn_of_owns {W : World} {Bs : Nat} {v : Value} {l : List (Nat × Nat)} (h : W.ownsRow Bs 65 2 v l.length (scells l)) : SpIn W v l := by
  obtain ⟨hl, ho⟩ := h
  rcases ho with ⟨rfl, hn⟩ | ⟨g, cap, cur, rfl, _, hg, _, _, _, htk⟩
  · exact ⟨none, 0, by rw [hn], fun hne => absurd (List.length_eq_zero_iff.1 hn) hne⟩
  · refine ⟨_, cap, rfl, fun _ => ⟨g, rfl, fun j u hj => ?_⟩⟩
    rw [Nat.zero_add]
    refine cell_of hg j ?_
    rw [← htk, List.getElem?_take] at hj
    split at hj
    · simpa using hj
    · cases hj
theorem SpIn.below {w w' : World} {v : Value} {l : List (Nat × Nat)} (h : SpIn w v l) (hb : Below w.heap.size w w') : SpIn w' v l := by
  obtain ⟨ao, cap, rfl, h2⟩ := h
  refine ⟨ao, cap, rfl, fun hne => ?_⟩
  obtain ⟨g, rfl, hr⟩ := h2 hne
  exact ⟨g, rfl, range_below hb hr⟩
theorem sum_split (a k b : Nat) (h : 0 < k) (h2 : a + k < b) : (2 * (b - (a + k)) - 1) + (2 * (a + k - a) - 1) < 2 * (b - a) - 1 := by omega
def ShPost (B E size : Nat) (w : World) (x : Ending) (w' : World) : Prop := ∃ v, x = .returned (.tuple #[v, .nilIface]) ∧ SpIn w' v (outs B E 0 size) ∧ Below w.heap.size w w'
set_option maxHeartbeats 2000000 in
set_option maxRecDepth 100000 in
theorem batch_shape (B E size : Nat) (hBE : B < E) (hES : E ≤ size) (hS : size ≤ 400) (w : World) :
    Calls Tryd.prog 20 #[.int .u64 (B : Int), .int .u64 (E : Int), .int .u64 (size : Int)] w fun x w' => ShPost B E size w x w' := by
  obtain ⟨i0, hi, hz0, hz1, hz2⟩ := info_parts Tryd.infoSpan
  have n1 : ¬ (9223372036854775808 : Int) < (size : Int) := by omega
  have n2 : ¬ (size : Int) < (E : Int) := by omega
  have n3 : ¬ (E : Int) ≤ (B : Int) := by omega
  go_enter Tryd.func20, Tryd.ntmps20
  go_wp2_with fail
  go_loopg [8, 9] (wt [(0, size)]) (fun k lv tv wr => BatchRel B E size w k lv tv wr)
  case atStart =>
    refine ⟨[], [(0, size)], rfl, by simp [wt]; omega, by simp [pileOut], ?_, World.ownsRow_nil _ _ _ _, ⟨w.heap.size, 1, rfl, Nat.le_refl _, (fun h => by cases h), by simp, fun j u hj => ?_⟩, below_one w _⟩
    · intro s hs
      rw [List.mem_singleton.1 hs]
      exact ⟨by omega, Nat.le_refl _⟩
    · rw [Nat.zero_add]
      exact cell_of (heap_one w _) j (by simpa [scells] using hj)
  case round =>
    obtain ⟨L, td, rfl, hw8, hLt, htd, hown, ⟨g, cap, rfl, hcap, hng, hgl, hr⟩, hbel⟩ := hrel
    rcases List.eq_nil_or_concat td with rfl | ⟨T, s, hT⟩
    · have HP := Lib.hid (show SpIn wr _ (outs B E 0 size) by rw [← hLt]; simp only [pileOut, List.reverse_nil, List.flatMap_nil, List.append_nil]; exact spIn_of_owns hown)
      have HB := Lib.hid hbel
      obtain ⟨ao, cp, rfl⟩ := owns_anyH hown
      clear hown hr hbel hLt htd hng hgl
      go_wp2_with fail
      go_ret2
      exact ⟨_, rfl, HP.out, HB.out⟩
    · obtain ⟨b, e⟩ := s
      rw [List.concat_eq_append] at hT
      subst hT
      obtain ⟨hbe, hes⟩ := htd (b, e) (by simp)
      have hlen := wt_len _ fun s hs => (htd s hs).1
      have hLl := outs_len (B := B) (E := E) (size := size) (by omega)
      rw [← hLt, List.length_append] at hLl
      have htT : ∀ s ∈ T, s.1 < s.2 ∧ s.2 ≤ size := fun s hs => htd s (List.mem_append_left _ hs)
      rw [scells_snoc] at hr
      have hrT : wr.rangeAt g 0 (scells T) := fun j u hj => hr j u (by rw [List.getElem?_append_left (List.getElem?_eq_some_iff.1 hj).1]; exact hj)
      have hrS : wr.rangeAt g (T.length * 2) [.int .u64 (b : Int), .int .u64 (e : Int)] := fun j u hj => by
        have := hr (T.length * 2 + j) u (by rw [List.getElem?_append_right (by rw [scells_len]; omega), scells_len, show T.length * 2 + j - T.length * 2 = j by omega]; exact hj)
        rwa [Nat.zero_add] at this
      rw [pileOut_snoc] at hLt
      simp only [wt_snoc] at hw8 ⊢
      have hsn : ∀ k, (wt (T ++ [(b, e)]) = k) → k = wt T + (2 * (e - b) - 1) := fun k hk => by rw [← hk, wt_snoc]
      obtain ⟨ao, cp, rfl⟩ := owns_anyH hown
      rw [List.length_append, List.length_singleton] at hlen hcap ⊢
      have s0 : wr.cell? ⟨g, T.length * 2, none⟩ = some (.int .u64 (b : Int)) := hrS 0 _ rfl
      have s1 : wr.cell? ⟨g, T.length * 2 + 1, none⟩ = some (.int .u64 (e : Int)) := hrS 1 _ rfl
      have HRT := Lib.hid hrT
      have HNG := Lib.hid hng
      have HGL := Lib.hid hgl
      have HTT := Lib.hid htT
      have HLT := Lib.hid hLt
      have HOW := Lib.hid hown
      have HBL := Lib.hid hbel
      rw [wt_snoc] at hlen
      generalize hnT : T.length = n at *
      clear hng hgl hr hrS hrT htd htT hLt hown hbel hsn
      go_upto_region 7 with fail
      have HOA := Lib.hid (HOW.out.alloc (.cells #[.int .u64 (b : Int), .int .u64 (e : Int)] 65))
      have HBA := Lib.hid (HBL.out.alloc HBL.out.size (.cells #[.int .u64 (b : Int), .int .u64 (e : Int)] 65))
      have HRA := Lib.hid (range_below (below_one wr (.cells #[.int .u64 (b : Int), .int .u64 (e : Int)] 65)) HRT.out)
      have c0 := cell_of (heap_one wr (.cells #[.int .u64 (b : Int), .int .u64 (e : Int)] 65)) 0 rfl
      have c1 := cell_of (heap_one wr (.cells #[.int .u64 (b : Int), .int .u64 (e : Int)] 65)) 1 rfl
      have lw : wr.heap.size < (wr.alloc (.cells #[.int .u64 (b : Int), .int .u64 (e : Int)] 65)).heap.size := by simp
      generalize (wr.alloc (.cells #[.int .u64 (b : Int), .int .u64 (e : Int)] 65)) = wA at *
      clear HOW HBL HRT s0 s1
      have HGA := Lib.hid (Nat.lt_trans HGL.out lw)
      by_cases h1 : e ≤ B
      · have HOUT := Lib.hid (show e ≤ B ∨ E ≤ b from .inl h1)
        have m1 : (e : Int) ≤ (B : Int) := by omega
        go_wp2_with (at_builtin; refine wpList_append_own_at _ rfl _ _ 54 rfl w.heap.size 65 i0 (.agg #[.int .u64 0, .int .u64 0]) 2 16 Tryd.underlying54 hi hz0 hz1 hz2 rfl (by decide) _ _ _ rfl (HOA.out.alloc _) ⟨wA.heap.size, 0, none⟩ 1 1 [.int .u64 (b : Int), .int .u64 (e : Int)] rfl rfl (fun j u hj => by rw [Addr.add_mid, Nat.zero_add]; exact cell_of (heap_one wA _) j (by simpa using hj)) ?c2 ?c3 ?c4 ?c5 ?_)
        case c2 => first | rfl | exact ⟨rfl, rfl⟩ | (intro u hu; simp at hu; rcases hu with rfl | rfl <;> rfl)
        case c3 => unfold maxLen; omega
        case c4 => omega
        case c5 => have := HBA.out.size; first | omega | (simp; omega)
        intro v' w2 hown' hgrow _ hloc
        have hb2 : Below w.heap.size w w2 := (HBA.out.alloc HBA.out.size _).grown hgrow (by have := HBA.out.size; simp; omega) (fun j hj => (HOA.out.lt j hj).1)
        have hrt2 : w2.rangeAt g 0 (scells T) := fun j u hj => by
          have h := (HRA.out j u hj)
          have hlt := lt_of_cell h
          have hne : Value.ownBlock (.slice ao L.length cp) ≠ some g := HNG.out
          have e1 := hgrow.block g (by simp; exact Nat.lt_succ_of_lt hlt) (fun e => hne e.symm)
          unfold World.cell? at h ⊢
          rw [e1, heap_alloc_old wA _ hlt]
          exact h
        rw [← scells_snoc L (b, e)] at hown'
        have HNV := Lib.hid (show v'.ownBlock ≠ some g by
          rcases hloc with h | h
          · rw [h]; exact HNG.out
          · rw [h]; intro e; have h2 := Option.some.inj e; have h3 := HGA.out; first | omega | (simp at h2; omega))
        obtain ⟨ao2, n2, cp2, rfl⟩ : ∃ ao n cp, v' = .slice ao n cp := by
          obtain ⟨x, y, h⟩ := owns_anyH hown'
          exact ⟨_, _, _, h⟩
        have HO2 := Lib.hid hown'
        have HB2 := Lib.hid hb2
        have HR2 := Lib.hid hrt2
        have HG2 := Lib.hid (Nat.lt_of_lt_of_le HGA.out (Nat.le_trans (by simp) hgrow.size))
        clear hown' hgrow hloc hb2 hrt2
        go_wp2_with fail
        go_roundg (wt T)
        case measure => rw [wt_snoc]; show wt T < wt T + (2 * (e - b) - 1); omega
        case rel =>
          refine ⟨L ++ [(b, e)], T, rfl, by omega, by rw [List.append_assoc, ← outs_out HOUT.out]; exact HLT.out, HTT.out, by rw [List.length_append]; exact HO2.out, ⟨g, _, by rw [hnT], by rw [hnT]; omega, HNV.out, HG2.out, HR2.out⟩, HB2.out⟩
      · have m1 : ¬ (e : Int) ≤ (B : Int) := by omega
        by_cases h2 : E ≤ b
        · have HOUT := Lib.hid (show e ≤ B ∨ E ≤ b from .inr h2)
          have m2 : (E : Int) ≤ (b : Int) := by omega
          go_wp2_with (at_builtin; refine wpList_append_own_at _ rfl _ _ 54 rfl w.heap.size 65 i0 (.agg #[.int .u64 0, .int .u64 0]) 2 16 Tryd.underlying54 hi hz0 hz1 hz2 rfl (by decide) _ _ _ rfl (HOA.out.alloc _) ⟨wA.heap.size, 0, none⟩ 1 1 [.int .u64 (b : Int), .int .u64 (e : Int)] rfl rfl (fun j u hj => by rw [Addr.add_mid, Nat.zero_add]; exact cell_of (heap_one wA _) j (by simpa using hj)) ?c2 ?c3 ?c4 ?c5 ?_)
          case c2 => first | rfl | exact ⟨rfl, rfl⟩ | (intro u hu; simp at hu; rcases hu with rfl | rfl <;> rfl)
          case c3 => unfold maxLen; omega
          case c4 => omega
          case c5 => have := HBA.out.size; first | omega | (simp; omega)
          intro v' w2 hown' hgrow _ hloc
          have hb2 : Below w.heap.size w w2 := (HBA.out.alloc HBA.out.size _).grown hgrow (by have := HBA.out.size; simp; omega) (fun j hj => (HOA.out.lt j hj).1)
          have hrt2 : w2.rangeAt g 0 (scells T) := fun j u hj => by
            have h := (HRA.out j u hj)
            have hlt := lt_of_cell h
            have hne : Value.ownBlock (.slice ao L.length cp) ≠ some g := HNG.out
            have e1 := hgrow.block g (by simp; exact Nat.lt_succ_of_lt hlt) (fun e => hne e.symm)
            unfold World.cell? at h ⊢
            rw [e1, heap_alloc_old wA _ hlt]
            exact h
          rw [← scells_snoc L (b, e)] at hown'
          have HNV := Lib.hid (show v'.ownBlock ≠ some g by
            rcases hloc with h | h
            · rw [h]; exact HNG.out
            · rw [h]; intro e; have h2 := Option.some.inj e; have h3 := HGA.out; first | omega | (simp at h2; omega))
          obtain ⟨ao2, n2, cp2, rfl⟩ : ∃ ao n cp, v' = .slice ao n cp := by
            obtain ⟨x, y, h⟩ := owns_anyH hown'
            exact ⟨_, _, _, h⟩
          have HO2 := Lib.hid hown'
          have HB2 := Lib.hid hb2
          have HR2 := Lib.hid hrt2
          have HG2 := Lib.hid (Nat.lt_of_lt_of_le HGA.out (Nat.le_trans (by simp) hgrow.size))
          clear hown' hgrow hloc hb2 hrt2
          go_wp2_with fail
          go_roundg (wt T)
          case measure => rw [wt_snoc]; show wt T < wt T + (2 * (e - b) - 1); omega
          case rel =>
            refine ⟨L ++ [(b, e)], T, rfl, by omega, by rw [List.append_assoc, ← outs_out HOUT.out]; exact HLT.out, HTT.out, by rw [List.length_append]; exact HO2.out, ⟨g, _, by rw [hnT], by rw [hnT]; omega, HNV.out, HG2.out, HR2.out⟩, HB2.out⟩
        · have m2 : ¬ (E : Int) ≤ (b : Int) := by omega
          by_cases h3 : B ≤ b ∧ e ≤ E
          · have m3 : (B : Int) ≤ (b : Int) := by omega
            have m4 : (e : Int) ≤ (E : Int) := by omega
            go_wp2_with fail
            go_roundg (wt T)
            case measure => rw [wt_snoc]; show wt T < wt T + (2 * (e - b) - 1); omega
            case rel =>
              refine ⟨L, T, rfl, by omega, by have h := HLT.out; rw [outs_in2 hbe h3, List.nil_append] at h; exact h, HTT.out, HOA.out, ⟨g, _, by rw [hnT], by rw [hnT]; omega, HNG.out, HGA.out, HRA.out⟩, HBA.out⟩
          · have hn2 : 2 ≤ e - b := by omega
            obtain ⟨k1, k2⟩ := spL_mid' hn2
            have HHV := Lib.hid (halves_any b e hn2 (by omega) wA)
            have HSPL := Lib.hid (outs_split (B := B) (E := E) (b := b) (e := e) (by omega) h3 hn2)
            unfold spanV at HHV
            rw [show ((b + spL (e - b) : Nat) : Int) = (b : Int) + (spL (e - b) : Int) by push_cast; rfl] at HHV
            generalize spL (e - b) = k at *
            by_cases h4 : B ≤ b
            · have m3 : (B : Int) ≤ (b : Int) := by omega
              have m4 : ¬ (e : Int) ≤ (E : Int) := by omega
              go_wp2_with (go_at_call 32; refine HHV.out.mono ?_)
              first
                | rintro x w2 rfl hb2
                | rintro x w2 ⟨rfl, hb2⟩
              have HO2 := Lib.hid (owns_below HOA.out hb2)
              have HB2 := Lib.hid (HBA.out.trans (hb2.mono HBA.out.size))
              have HR2 := Lib.hid (range_below hb2 HRA.out)
              go_upto_region 9 with fail
              have bl := below_one w2 (.cells #[.int .u64 (b : Int), .int .u64 ((b : Int) + (k : Int))] 65)
              have br := below_one (w2.alloc (.cells #[.int .u64 (b : Int), .int .u64 ((b : Int) + (k : Int))] 65)) (.cells #[.int .u64 ((b : Int) + (k : Int)), .int .u64 (e : Int)] 65)
              have d0 := below_cell br (cell_of (heap_one w2 (.cells #[.int .u64 (b : Int), .int .u64 ((b : Int) + (k : Int))] 65)) 0 rfl)
              have d1 := below_cell br (cell_of (heap_one w2 (.cells #[.int .u64 (b : Int), .int .u64 ((b : Int) + (k : Int))] 65)) 1 rfl)
              have hs1 : (w2.alloc (.cells #[.int .u64 (b : Int), .int .u64 ((b : Int) + (k : Int))] 65)).heap.size = w2.heap.size + 1 := by simp
              have d2 := cell_of (heap_one (w2.alloc (.cells #[.int .u64 (b : Int), .int .u64 ((b : Int) + (k : Int))] 65)) (.cells #[.int .u64 ((b : Int) + (k : Int)), .int .u64 (e : Int)] 65)) 0 rfl
              have d3 := cell_of (heap_one (w2.alloc (.cells #[.int .u64 (b : Int), .int .u64 ((b : Int) + (k : Int))] 65)) (.cells #[.int .u64 ((b : Int) + (k : Int)), .int .u64 (e : Int)] 65)) 1 rfl
              rw [hs1] at d2 d3
              have b4 := bl.trans (br.mono (by omega))
              generalize ((w2.alloc (.cells #[.int .u64 (b : Int), .int .u64 ((b : Int) + (k : Int))] 65)).alloc (.cells #[.int .u64 ((b : Int) + (k : Int)), .int .u64 (e : Int)] 65)) = w4 at *
              have HO4 := Lib.hid (owns_below HO2.out b4)
              have HB4 := Lib.hid (HB2.out.trans (b4.mono HB2.out.size))
              have HR4 := Lib.hid (range_below b4 HR2.out)
              have HG4 := Lib.hid (Nat.lt_of_lt_of_le HGA.out (Nat.le_trans hb2.size b4.size))
              clear bl br hs1 b4 HO2 HB2 HR2 hb2
              go_wp2_with (at_builtin; refine wpList_append_grows _ rfl _ _ 54 rfl 65 i0 (.agg #[.int .u64 0, .int .u64 0]) 2 16 Tryd.underlying54 hi hz0 hz1 hz2 rfl (by decide) (some ⟨g, 0, none⟩) n (n + 1) (scells T) rfl (fun h => by cases h) (by rw [scells_len, hnT]) (fun b0 hb0 j u hj => by obtain rfl := Option.some.inj hb0; rw [Addr.add_mid]; exact range_below (below_one w4 _) HR4.out j u hj) ⟨w4.heap.size, 0, none⟩ 2 2 [.int .u64 ((b : Int) + (k : Int)), .int .u64 (e : Int), .int .u64 (b : Int), .int .u64 ((b : Int) + (k : Int))] rfl rfl (fun j u hj => by rw [Addr.add_mid, Nat.zero_add]; exact cell_of (heap_one w4 _) j (by simpa using hj)) ?c2 ?c3 ?c4 ?c5 ?_)
              case c2 => first | rfl | exact ⟨rfl, rfl⟩ | exact ⟨rfl, rfl, rfl, rfl⟩ | (intro u hu; simp at hu; rcases hu with rfl | rfl | rfl | rfl <;> rfl)
              case c3 => omega
              case c4 => unfold maxLen; omega
              case c5 => omega
              intro v' w5 hown' hgrow
              have hb5 : Below w.heap.size w w5 := (HB4.out.alloc HB4.out.size _).grown hgrow (by have := HB4.out.size; simp; omega) (fun j hj => by cases hj)
              have HO5 := Lib.hid (owns_below (HO4.out.alloc (.cells #[.int .u64 ((b : Int) + (k : Int)), .int .u64 (e : Int), .int .u64 (b : Int), .int .u64 ((b : Int) + (k : Int))] 65)) ((Below.refl _ _).grown hgrow (Nat.le_refl _) (fun j hj => by cases hj)))
              obtain ⟨hlen5, hw5⟩ := hown'
              rcases hw5 with ⟨_, h⟩ | ⟨g5, cap5, cur5, rfl, hg5, hcur5, hcap5, _, _, htk5⟩
              · omega
              have hlt5 := lt_of_heap hcur5
              have HR5 := Lib.hid (show w5.rangeAt g5 0 (scells (T ++ [(b + k, e)] ++ [(b, b + k)])) by
                intro j u hj
                rw [Nat.zero_add]
                refine cell_of hcur5 j ?_
                have e1 : scells (T ++ [(b + k, e)] ++ [(b, b + k)]) = scells T ++ [.int .u64 ((b : Int) + (k : Int)), .int .u64 (e : Int), .int .u64 (b : Int), .int .u64 ((b : Int) + (k : Int))] := by
                  rw [scells_snoc, scells_snoc, List.append_assoc]
                  simp
                rw [e1, ← htk5, List.getElem?_take] at hj
                split at hj
                · simpa using hj
                · cases hj)
              have HB5 := Lib.hid hb5
              have HNV := Lib.hid (show Value.ownBlock (.slice ao L.length cp) ≠ some g5 by
                intro e
                have h := (HO4.out.lt _ e).2
                first | omega | (simp at hg5; omega))
              have HC5 := Lib.hid hcap5
              have HL5 := Lib.hid hlt5
              clear hb5 hlen5 hcur5 htk5 hgrow hg5 hcap5 hlt5
              go_wp2_with fail
              go_roundg (wt (T ++ [(b + k, e)] ++ [(b, b + k)]))
              case measure => rw [wt_snoc, wt_snoc, wt_snoc]; show wt T + (2 * (e - (b + k)) - 1) + (2 * (b + k - b) - 1) < wt T + (2 * (e - b) - 1); omega
              case rel =>
                refine ⟨L, T ++ [(b + k, e)] ++ [(b, b + k)], rfl, ?_, ?_, ?_, HO5.out, ⟨g5, cap5, ?_, ?_, HNV.out, HL5.out, HR5.out⟩, HB5.out⟩
                · rw [wt_snoc, wt_snoc]; show wt T + (2 * (e - (b + k)) - 1) + (2 * (b + k - b) - 1) ≤ 800; omega
                · rw [pileOut_snoc, pileOut_snoc, ← List.append_assoc (outs B E b (b + k)), ← HSPL.out]; exact HLT.out
                · intro s hs
                  rcases List.mem_append.1 hs with h | h
                  · rcases List.mem_append.1 h with h | h
                    · exact HTT.out s h
                    · rw [List.mem_singleton.1 h]; exact ⟨by show b + k < e; omega, hes⟩
                  · rw [List.mem_singleton.1 h]; exact ⟨by show b < b + k; omega, by show b + k ≤ size; omega⟩
                · rw [List.length_append, List.length_append, hnT]; rfl
                · rw [List.length_append, List.length_append, hnT]; exact HC5.out
            · have m3 : ¬ (B : Int) ≤ (b : Int) := by omega
              go_wp2_with (go_at_call 32; refine HHV.out.mono ?_)
              first
                | rintro x w2 rfl hb2
                | rintro x w2 ⟨rfl, hb2⟩
              have HO2 := Lib.hid (owns_below HOA.out hb2)
              have HB2 := Lib.hid (HBA.out.trans (hb2.mono HBA.out.size))
              have HR2 := Lib.hid (range_below hb2 HRA.out)
              go_upto_region 9 with fail
              have bl := below_one w2 (.cells #[.int .u64 (b : Int), .int .u64 ((b : Int) + (k : Int))] 65)
              have br := below_one (w2.alloc (.cells #[.int .u64 (b : Int), .int .u64 ((b : Int) + (k : Int))] 65)) (.cells #[.int .u64 ((b : Int) + (k : Int)), .int .u64 (e : Int)] 65)
              have d0 := below_cell br (cell_of (heap_one w2 (.cells #[.int .u64 (b : Int), .int .u64 ((b : Int) + (k : Int))] 65)) 0 rfl)
              have d1 := below_cell br (cell_of (heap_one w2 (.cells #[.int .u64 (b : Int), .int .u64 ((b : Int) + (k : Int))] 65)) 1 rfl)
              have hs1 : (w2.alloc (.cells #[.int .u64 (b : Int), .int .u64 ((b : Int) + (k : Int))] 65)).heap.size = w2.heap.size + 1 := by simp
              have d2 := cell_of (heap_one (w2.alloc (.cells #[.int .u64 (b : Int), .int .u64 ((b : Int) + (k : Int))] 65)) (.cells #[.int .u64 ((b : Int) + (k : Int)), .int .u64 (e : Int)] 65)) 0 rfl
              have d3 := cell_of (heap_one (w2.alloc (.cells #[.int .u64 (b : Int), .int .u64 ((b : Int) + (k : Int))] 65)) (.cells #[.int .u64 ((b : Int) + (k : Int)), .int .u64 (e : Int)] 65)) 1 rfl
              rw [hs1] at d2 d3
              have b4 := bl.trans (br.mono (by omega))
              generalize ((w2.alloc (.cells #[.int .u64 (b : Int), .int .u64 ((b : Int) + (k : Int))] 65)).alloc (.cells #[.int .u64 ((b : Int) + (k : Int)), .int .u64 (e : Int)] 65)) = w4 at *
              have HO4 := Lib.hid (owns_below HO2.out b4)
              have HB4 := Lib.hid (HB2.out.trans (b4.mono HB2.out.size))
              have HR4 := Lib.hid (range_below b4 HR2.out)
              have HG4 := Lib.hid (Nat.lt_of_lt_of_le HGA.out (Nat.le_trans hb2.size b4.size))
              clear bl br hs1 b4 HO2 HB2 HR2 hb2
              go_wp2_with (at_builtin; refine wpList_append_grows _ rfl _ _ 54 rfl 65 i0 (.agg #[.int .u64 0, .int .u64 0]) 2 16 Tryd.underlying54 hi hz0 hz1 hz2 rfl (by decide) (some ⟨g, 0, none⟩) n (n + 1) (scells T) rfl (fun h => by cases h) (by rw [scells_len, hnT]) (fun b0 hb0 j u hj => by obtain rfl := Option.some.inj hb0; rw [Addr.add_mid]; exact range_below (below_one w4 _) HR4.out j u hj) ⟨w4.heap.size, 0, none⟩ 2 2 [.int .u64 ((b : Int) + (k : Int)), .int .u64 (e : Int), .int .u64 (b : Int), .int .u64 ((b : Int) + (k : Int))] rfl rfl (fun j u hj => by rw [Addr.add_mid, Nat.zero_add]; exact cell_of (heap_one w4 _) j (by simpa using hj)) ?c2 ?c3 ?c4 ?c5 ?_)
              case c2 => first | rfl | exact ⟨rfl, rfl⟩ | exact ⟨rfl, rfl, rfl, rfl⟩ | (intro u hu; simp at hu; rcases hu with rfl | rfl | rfl | rfl <;> rfl)
              case c3 => omega
              case c4 => unfold maxLen; omega
              case c5 => omega
              intro v' w5 hown' hgrow
              have hb5 : Below w.heap.size w w5 := (HB4.out.alloc HB4.out.size _).grown hgrow (by have := HB4.out.size; simp; omega) (fun j hj => by cases hj)
              have HO5 := Lib.hid (owns_below (HO4.out.alloc (.cells #[.int .u64 ((b : Int) + (k : Int)), .int .u64 (e : Int), .int .u64 (b : Int), .int .u64 ((b : Int) + (k : Int))] 65)) ((Below.refl _ _).grown hgrow (Nat.le_refl _) (fun j hj => by cases hj)))
              obtain ⟨hlen5, hw5⟩ := hown'
              rcases hw5 with ⟨_, h⟩ | ⟨g5, cap5, cur5, rfl, hg5, hcur5, hcap5, _, _, htk5⟩
              · omega
              have hlt5 := lt_of_heap hcur5
              have HR5 := Lib.hid (show w5.rangeAt g5 0 (scells (T ++ [(b + k, e)] ++ [(b, b + k)])) by
                intro j u hj
                rw [Nat.zero_add]
                refine cell_of hcur5 j ?_
                have e1 : scells (T ++ [(b + k, e)] ++ [(b, b + k)]) = scells T ++ [.int .u64 ((b : Int) + (k : Int)), .int .u64 (e : Int), .int .u64 (b : Int), .int .u64 ((b : Int) + (k : Int))] := by
                  rw [scells_snoc, scells_snoc, List.append_assoc]
                  simp
                rw [e1, ← htk5, List.getElem?_take] at hj
                split at hj
                · simpa using hj
                · cases hj)
              have HB5 := Lib.hid hb5
              have HNV := Lib.hid (show Value.ownBlock (.slice ao L.length cp) ≠ some g5 by
                intro e
                have h := (HO4.out.lt _ e).2
                first | omega | (simp at hg5; omega))
              have HC5 := Lib.hid hcap5
              have HL5 := Lib.hid hlt5
              clear hb5 hlen5 hcur5 htk5 hgrow hg5 hcap5 hlt5
              go_wp2_with fail
              go_roundg (wt (T ++ [(b + k, e)] ++ [(b, b + k)]))
              case measure => rw [wt_snoc, wt_snoc, wt_snoc]; show wt T + (2 * (e - (b + k)) - 1) + (2 * (b + k - b) - 1) < wt T + (2 * (e - b) - 1); omega
              case rel =>
                refine ⟨L, T ++ [(b + k, e)] ++ [(b, b + k)], rfl, ?_, ?_, ?_, HO5.out, ⟨g5, cap5, ?_, ?_, HNV.out, HL5.out, HR5.out⟩, HB5.out⟩
                · rw [wt_snoc, wt_snoc]; show wt T + (2 * (e - (b + k)) - 1) + (2 * (b + k - b) - 1) ≤ 800; omega
                · rw [pileOut_snoc, pileOut_snoc, ← List.append_assoc (outs B E b (b + k)), ← HSPL.out]; exact HLT.out
                · intro s hs
                  rcases List.mem_append.1 hs with h | h
                  · rcases List.mem_append.1 h with h | h
                    · exact HTT.out s h
                    · rw [List.mem_singleton.1 h]; exact ⟨by show b + k < e; omega, hes⟩
                  · rw [List.mem_singleton.1 h]; exact ⟨by show b < b + k; omega, by show b + k ≤ size; omega⟩
                · rw [List.length_append, List.length_append, hnT]; rfl
                · rw [List.length_append, List.length_append, hnT]; exact HC5.out
end Go.Proofs.YthcccgbodceeeaaDoor
