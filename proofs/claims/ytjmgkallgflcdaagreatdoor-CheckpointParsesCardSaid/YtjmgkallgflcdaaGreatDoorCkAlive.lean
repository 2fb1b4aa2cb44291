/-
  cartularylaw21.alive: what the document says of a short checkpoint; a checkpoint's value in a call's own variable.
-/
import Derived.Test.YtjmgkallgflcdaaGreatDoorCkSame
import Derived.Test.YtjmgkallgflcdaaGreatDoorCkBackP
import Derived.Laws.Tables
namespace Go.Proofs.YtjmgkallgflcdaaGreatDoor
open Go.RowKit

theorem ErrAt.eq_nil {S : Nat → Addr} {w : World} {v : Value} {c : Nat} {p : Option Int} (h : ErrAt S w v c p) (hc : c = 0) : v = .nilIface := by
  rcases h with ⟨h, _⟩ | ⟨h, _⟩ | ⟨h, _⟩
  · exact h
  · omega
  · omega
theorem owns_texts {B : Nat} {w : World} {v : Value} {L : List (List UInt8)} (h : Owns B w v (L.map fun l => ⟨l.toArray⟩)) : TextsIn w v L := by
  have h0 : w.ownsRow B 9 1 v L.length (L.map fun l => Value.string ⟨l.toArray⟩) := by
    have h1 : w.ownsRow B 9 1 v (L.map fun l => (⟨l.toArray⟩ : ByteArray)).length ((L.map fun l => (⟨l.toArray⟩ : ByteArray)).map Value.string) := h
    rw [List.length_map, List.map_map] at h1
    exact h1
  rcases h0.2 with ⟨rfl, hn⟩ | ⟨g, cap, cur, rfl, _, _, hn, _⟩
  · obtain rfl := List.eq_nil_of_length_eq_zero hn
    exact ⟨none, 0, rfl, fun h => absurd rfl h⟩
  · refine ⟨_, _, rfl, fun _ => ⟨g, 0, rfl, fun k x hx => ?_⟩⟩
    have hk : k < L.length := (List.getElem?_eq_some_iff.1 hx).1
    rw [Nat.zero_add, h0.cellAt k (by omega)]
    simp [hx]
theorem ckList_one {o : ByteArray} {z : Int} {r : List UInt8} {ev : Value} (h : ev.oneCell' = true) : (ckList o z (Lib.byteCells r) ev).toArray.all (·.oneCell') = true := by
  rw [List.all_toArray]
  simp only [ckList, List.all_cons, List.all_append, List.all_nil, Bool.and_true, h]
  have h2 : (Lib.byteCells r).all (·.oneCell') = true := by
    rw [List.all_eq_true]
    intro x hx
    obtain ⟨b, _, rfl⟩ := List.mem_map.1 hx
    rfl
  rw [h2]
  rfl
theorem ckVal_parts {B : Nat} {W : World} {cs : Array Value} {st : CkSt} (h : CkVal B W cs st) : cs.size = 35 ∧ cs.all (·.oneCell') = true ∧ st.2.2.1.length = 32 ∧
    ∃ ev, cs = (ckList ⟨st.1.toArray⟩ (st.2.1 : Int) (Lib.byteCells st.2.2.1) ev).toArray ∧ TextsIn W ev st.2.2.2 := by
  obtain ⟨ev, h32, rfl, ho, _⟩ := h
  have hT := owns_texts ho
  refine ⟨by simp [ckList, Lib.byteCells_length, h32], ckList_one ?_, h32, ev, rfl, hT⟩
  obtain ⟨ao, c, rfl, _⟩ := hT
  rfl
theorem stored (w2 : World) (cs : Array Value) (t : TypeId) (old : Array Value) : (w2.alloc (.cells old t)).setRow w2.heap.size cs = w2.alloc (.cells cs t) := by
  have h : (w2.heap.push (.cells old t))[w2.heap.size]? = some (.cells old t) := by simp
  unfold World.setRow World.alloc
  simp only
  congr 1
  refine Array.ext_getElem? fun j => ?_
  rw [Array.getElem?_modify]
  by_cases e : w2.heap.size = j
  · subst e
    simp
  · rw [if_neg e, Array.getElem?_push, Array.getElem?_push, if_neg (fun h => e h.symm), if_neg (fun h => e h.symm)]
/-- A checkpoint's value goes into a new variable. -/
theorem wpList_ck {ops : Array Oper} {rest : List Oper} {o : Oper} {a : Act} {w2 : World} {Q : Exit → Act → World → Prop} (hgd : o.guard = none) (x y : Operand) (ho : o.op = .store 27 x y)
    {cs : Array Value} (hx : a.eval x = .pointer (some ⟨w2.heap.size, 0, none⟩)) (hy : a.eval y = .agg cs) (hcs : cs.size = 35) (hone : cs.all (·.oneCell') = true)
    (h : wpList Tryz.prog ops Q rest (a.put o.dst undef) (w2.alloc (.cells cs 27))) : wpList Tryz.prog ops Q (o :: rest) a (w2.alloc (.cells ckZero 27)) := by
  refine wpList_store_row hgd 27 x y ho w2.heap.size cs hx hy 27 ckZero (heap_alloc_new w2 _) (by rw [hcs]; exact ckInfo) (by rw [hcs]; rfl) hone ?_
  rw [stored]
  exact h
/-- A whole checkpoint is read. -/
theorem wpList_ckLoad {ops : Array Oper} {rest : List Oper} {o : Oper} {a : Act} {W : World} {Q : Exit → Act → World → Prop} (hw : Region.wanted o (yielded ops a.tmps) = true) (x : Operand) (ho : o.op = .load 27 x)
    {cb : Nat} {cs : Array Value} (hx : a.eval x = .pointer (some ⟨cb, 0, none⟩)) (hg : W.heap[cb]? = some (.cells cs 27 (0, 0))) (h35 : cs.size = 35)
    (h : wpList Tryz.prog ops Q rest (a.put o.dst (.agg cs)) W) : wpList Tryz.prog ops Q (o :: rest) a W :=
  wpList_step fun K hK => by
    rw [if_pos hw]
    exact wp_load_row 27 x ho cb hx 27 cs (0, 0) _ hg Tryz.underlying27 rfl (by rw [h35]; exact ckInfo) (hK _ _ h)

/-! ### alive -/
def alSt : CkSt := ([97], 5, List.replicate 32 0, [[120, 32, 121]])
def alText : List UInt8 := [97, 10, 53, 10] ++ zerosL ++ [10, 120, 32, 121, 10]
set_option maxRecDepth 100000 in
theorem al_may : mayCk alSt = true := by decide
theorem al_text : ckText alSt = alText := by
  have h1 : Lib.decDigits 5 = [53] := Lib.decDigits_one (by decide)
  have h2 : b64 (List.replicate 32 0) = zerosL := by kernel_rfl
  unfold ckText alSt
  simp only []
  rw [h1, h2]
  rfl
theorem al_fmt : fmtCk alSt = (alText, 0) := by rw [fmt_ok al_may (by decide), al_text]
theorem al_parse : parseCk alText = (alSt, 0, none) := by rw [← al_text]; exact text_parse al_may (by decide) (by decide)
def alBad : List UInt8 := [97, 10, 48, 53, 10] ++ zerosL ++ [10]
set_option maxRecDepth 100000 in
theorem al_bad : parseCk alBad = (st0, 3, some 1) := by decide
theorem al_lit (ev : Value) : (ckList ⟨([97] : List UInt8).toArray⟩ ((5 : Nat) : Int) (Lib.byteCells (List.replicate 32 0)) ev).toArray = #[.string ⟨#[97]⟩, .int .u64 5, .int .u8 0, .int .u8 0, .int .u8 0, .int .u8 0, .int .u8 0, .int .u8 0, .int .u8 0, .int .u8 0, .int .u8 0, .int .u8 0, .int .u8 0, .int .u8 0, .int .u8 0, .int .u8 0, .int .u8 0, .int .u8 0, .int .u8 0, .int .u8 0, .int .u8 0, .int .u8 0, .int .u8 0, .int .u8 0, .int .u8 0, .int .u8 0, .int .u8 0, .int .u8 0, .int .u8 0, .int .u8 0, .int .u8 0, .int .u8 0, .int .u8 0, .int .u8 0, ev] := rfl
theorem texts_one (w : World) : TextsIn (w.alloc (.cells #[.string ⟨#[120, 32, 121]⟩] 9)) (.slice (some ⟨w.heap.size, 0, none⟩) 1 1) [[120, 32, 121]] := by
  have h2 : TextsAt 0 (w.alloc (.cells #[.string ⟨#[120, 32, 121]⟩] 9)) (.slice (some ⟨w.heap.size, 0, none⟩) 1 1) [[120, 32, 121]] := .inr ⟨_, Nat.zero_le _, rfl, heap_alloc_new w _⟩
  exact h2.in_

section
variable (S : Nat → Addr)
theorem al_1 (w : World) (hB : Base S w) (htab : Tab w) : Calls Tryz.prog 9 #[.agg #[.string ⟨#[97]⟩, .int .u64 5, .int .u8 0, .int .u8 0, .int .u8 0, .int .u8 0, .int .u8 0, .int .u8 0, .int .u8 0, .int .u8 0, .int .u8 0, .int .u8 0, .int .u8 0, .int .u8 0, .int .u8 0, .int .u8 0, .int .u8 0, .int .u8 0, .int .u8 0, .int .u8 0, .int .u8 0, .int .u8 0, .int .u8 0, .int .u8 0, .int .u8 0, .int .u8 0, .int .u8 0, .int .u8 0, .int .u8 0, .int .u8 0, .int .u8 0, .int .u8 0, .int .u8 0, .int .u8 0, .slice (some ⟨w.heap.size, 0, none⟩) 1 1]] (w.alloc (.cells #[.string ⟨#[120, 32, 121]⟩] 9))
    fun e w' => e = .returned (.tuple #[.string ⟨alText.toArray⟩, .nilIface]) ∧ Below w.heap.size w w' := by
  have hb : Below w.heap.size w (w.alloc (.cells #[.string ⟨#[120, 32, 121]⟩] 9)) := (Below.refl _ _).alloc (Nat.le_refl _) _
  have h := format_any S _ [97] 5 (List.replicate 32 0) [[120, 32, 121]] _ (by simp) (texts_one w) (by decide) (by decide) (by decide) (by decide) (hB.below hb) (tab_below htab hb)
  rw [al_lit] at h
  refine h.mono ?_
  rintro e w' ⟨er, rfl, b1, he⟩
  have hf : fmtCk ([97], 5, List.replicate 32 0, [[120, 32, 121]]) = (alText, 0) := al_fmt
  rw [hf] at he ⊢
  rw [he.eq_nil rfl]
  exact ⟨rfl, hb.trans (b1.mono hb.size)⟩
theorem al_2 (w : World) (hB : Base S w) (s : ByteArray) (hs : s.data.toList = alText) : Calls Tryz.prog 15 #[.string s] w
    fun e w' => ∃ cs ev, e = .returned (.tuple #[.agg cs, .nilIface]) ∧ Below w.heap.size w w' ∧ cs.size = 35 ∧ cs.all (·.oneCell') = true ∧ cs = (ckList ⟨([97] : List UInt8).toArray⟩ ((5 : Nat) : Int) (Lib.byteCells (List.replicate 32 0)) ev).toArray ∧ TextsIn w' ev [[120, 32, 121]] := by
  have hsz : s.size ≤ 1048576 := by rw [← size_list, hs]; decide
  refine (parse_any S s w hsz hB).mono ?_
  rintro e w' ⟨cs, er, rfl, b1, he, _, hv⟩
  rw [hs, al_parse] at he hv
  rw [he.eq_nil rfl]
  obtain ⟨h35, h1, _, ev, h2, h3⟩ := ckVal_parts (hv rfl)
  exact ⟨cs, ev, rfl, b1, h35, h1, h2, h3⟩
theorem al_3 (w : World) (hB : Base S w) (s : ByteArray) (hs : s.data.toList = alBad) : Calls Tryz.prog 15 #[.string s] w
    fun e w' => ∃ er, e = .returned (.tuple #[.agg ckZero, er]) ∧ Below w.heap.size w w' ∧ ErrAt S w' er 3 (some 1) := by
  have hsz : s.size ≤ 1048576 := by rw [← size_list, hs]; decide
  refine (parse_any S s w hsz hB).mono ?_
  rintro e w' ⟨cs, er, rfl, b1, he, hz, _⟩
  rw [hs, al_bad] at he hz
  rw [hz (by decide)]
  exact ⟨er, rfl, b1, he⟩
theorem al_4 (w : World) (a : Nat) (ha : w.heap.size = a) (ev : Value) (cs : Array Value) (hcs : cs = (ckList ⟨([97] : List UInt8).toArray⟩ ((5 : Nat) : Int) (Lib.byteCells (List.replicate 32 0)) ev).toArray) (hT : TextsIn w ev [[120, 32, 121]]) :
    Calls Tryz.prog 16 #[.agg cs, .agg #[.string ⟨#[97]⟩, .int .u64 5, .int .u8 0, .int .u8 0, .int .u8 0, .int .u8 0, .int .u8 0, .int .u8 0, .int .u8 0, .int .u8 0, .int .u8 0, .int .u8 0, .int .u8 0, .int .u8 0, .int .u8 0, .int .u8 0, .int .u8 0, .int .u8 0, .int .u8 0, .int .u8 0, .int .u8 0, .int .u8 0, .int .u8 0, .int .u8 0, .int .u8 0, .int .u8 0, .int .u8 0, .int .u8 0, .int .u8 0, .int .u8 0, .int .u8 0, .int .u8 0, .int .u8 0, .int .u8 0, .slice (some ⟨a, 0, none⟩) 1 1]] (w.alloc (.cells #[.string ⟨#[120, 32, 121]⟩] 9))
    fun e w' => e = .returned (.bool true) ∧ Below w.heap.size w w' := by
  subst ha
  have hb : Below w.heap.size w (w.alloc (.cells #[.string ⟨#[120, 32, 121]⟩] 9)) := (Below.refl _ _).alloc (Nat.le_refl _) _
  have h := sameCk_any _ [97] [97] 5 5 (List.replicate 32 0) (List.replicate 32 0) [[120, 32, 121]] [[120, 32, 121]] ev _ (by simp) (by simp) (hT.below hb) (texts_one w) (by decide) (by decide)
  rw [← hcs, al_lit] at h
  refine h.mono ?_
  rintro e w' ⟨rfl, b1⟩
  exact ⟨ret_bool (by simp), hb.trans (b1.mono hb.size)⟩
theorem al_5 (w : World) (hB : Base S w) (er : Value) (he : ErrAt S w er 3 (some 1)) : Calls Tryz.prog 36 #[er, .int .i64 3, .int .i64 1] w fun e w' => e = .returned (.bool true) ∧ Below w.heap.size w w' := by
  refine (isAt_any S w er 3 (some 1) 3 1 hB he).mono ?_
  rintro _ w' ⟨rfl, hb⟩
  exact ⟨ret_bool (by simp [isAtB]), hb⟩
theorem al_eq : (⟨alText.toArray⟩ : ByteArray) = ⟨#[97, 10, 53, 10, 65, 65, 65, 65, 65, 65, 65, 65, 65, 65, 65, 65, 65, 65, 65, 65, 65, 65, 65, 65, 65, 65, 65, 65, 65, 65, 65, 65, 65, 65, 65, 65, 65, 65, 65, 65, 65, 65, 65, 65, 65, 65, 65, 61, 10, 120, 32, 121, 10]⟩ := rfl

set_option maxHeartbeats 2000000 in
set_option maxRecDepth 100000 in
theorem alive21_any (w : World) (hB : Base S w) (htab : Tab w) : Calls Tryz.prog 13 #[] w fun e w' => e = .returned (.bool true) ∧ Below w.heap.size w w' := by
  have HB := Lib.hid hB
  have HT := Lib.hid htab
  clear hB htab
  go_enter Tryz.func13, Tryz.ntmps13
  go_wp2_with fail
  refine (al_1 S w HB.out HT.out).mono ?_
  rintro e w1 ⟨rfl, b1⟩
  have B1 := Lib.hid (HB.out.below b1)
  rw [al_eq]
  go_wp2_with fail
  refine (al_2 S _ B1.out _ rfl).mono ?_
  rintro e w2 ⟨cs, ev, rfl, b2, h35, hone, hcs, hT2⟩
  have B2 := Lib.hid (B1.out.below b2)
  have d2 := below_trans b1 b2
  have b3 : Below w2.heap.size w2 (w2.alloc (.cells cs 27)) := (Below.refl _ _).alloc (Nat.le_refl _) _
  have hrow : (w2.alloc (.cells cs 27)).heap[w2.heap.size]? = some (.cells cs 27 (0, 0)) := heap_alloc_new w2 _
  have B3 := Lib.hid (B2.out.below b3)
  have d3 := below_trans d2 b3
  have hT3 := hT2.below b3
  have H35 := Lib.hid h35
  have HONE := Lib.hid hone
  have HCS := Lib.hid hcs
  clear h35 hone hcs hT2 b1 b2
  go_wp2_with (first | (refine wpList_ck (by rfl) (.tmp 3) (.tmp 15) (by rfl) (by rfl) (by rfl) H35.out HONE.out ?_))
  generalize w2.alloc (.cells cs 27) = w3 at *
  refine (al_3 S _ B3.out _ rfl).mono ?_
  rintro e w4 ⟨er, rfl, b4, he4⟩
  have B4 := Lib.hid (B3.out.below b4)
  have hrow4 := below_heap b4 hrow
  have d4 := below_trans d3 b4
  have hT4 := hT3.below b4
  have b5 : Below w4.heap.size w4 (w4.alloc (.cells ckZero 27)) := (Below.refl _ _).alloc (Nat.le_refl _) _
  have B5 := Lib.hid (B4.out.below b5)
  have HROW5 := Lib.hid (below_heap b5 hrow4)
  have d5 := below_trans d4 b5
  have HT5 := Lib.hid (hT4.below b5)
  have HE5 := Lib.hid (he4.below b5)
  clear hrow hrow4 b3 b4 b5 hT3 hT4 he4 d2 d3 d4
  go_wp2_with (first | (refine wpList_ck (by rfl) (.tmp 5) (.tmp 19) (by rfl) (by rfl) (by rfl) zero_size zero_one ?_) | (refine wpList_ckLoad (by rfl) (.tmp 3) (by rfl) (by rfl) HROW5.out H35.out ?_))
  have hs5 : (w4.alloc (.cells ckZero 27)).heap.size = w4.heap.size + 1 := by simp
  generalize w4.alloc (.cells ckZero 27) = w5 at *
  refine (al_4 w5 _ hs5 ev cs HCS.out HT5.out).mono ?_
  rintro e w6 ⟨rfl, b6⟩
  have B6 := Lib.hid (B5.out.below b6)
  have HE6 := Lib.hid (HE5.out.below b6)
  have d6 := below_trans d5 b6
  go_wp2_with fail
  refine (al_5 S w6 B6.out er HE6.out).mono ?_
  rintro e w7 ⟨rfl, b7⟩
  go_wp2_with fail
  go_ret
  exact ⟨rfl, below_trans d6 b7⟩
end
end Go.Proofs.YtjmgkallgflcdaaGreatDoor
