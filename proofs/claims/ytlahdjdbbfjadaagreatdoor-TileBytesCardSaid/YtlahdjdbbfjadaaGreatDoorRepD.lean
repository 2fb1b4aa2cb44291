/-
  (*sync.Once).Do of a Replacer's buildOnce; (*strings.Replacer).Replace; strings.NewReplacer.
-/
import Derived.Test.YtlahdjdbbfjadaaGreatDoorRepO
namespace Go.Proofs.YtlahdjdbbfjadaaGreatDoor
open Go.RowKit

theorem OldNew.set {w : World} {v x3 x4 : Value} {rb : Nat} {d st : Int} (h : OldNew w v) (hr : RepRow w rb d st x3 x4) (i : Nat) (x : Value) : OldNew (w.setCell ⟨rb, i, none⟩ x) v := by
  obtain ⟨ob, cap, rfl, o0, o1, o2, o3⟩ := h
  have hne : ob ≠ rb := by
    rintro rfl
    rw [hr.cells.1] at o0
    cases o0
  exact ⟨ob, cap, rfl, cellC_other o0 hne, cellC_other o1 hne, cellC_other o2 hne, cellC_other o3 hne⟩
theorem OldNew.below {w w' : World} {v : Value} (h : OldNew w v) (hb : Below w.heap.size w w') : OldNew w' v := by
  obtain ⟨ob, cap, rfl, o0, o1, o2, o3⟩ := h
  exact ⟨ob, cap, rfl, below_cell hb o0, below_cell hb o1, below_cell hb o2, below_cell hb o3⟩
/-- Built. -/
def Built (B rb : Nat) (w w' : World) : Prop := ∃ sb, RepRow w' rb 1 0 (.iface 328 (.pointer (some ⟨sb, 0, none⟩))) (.slice none 0 0) ∧ Bsr w' sb ∧ Below B w w'
set_option maxHeartbeats 1000000 in
set_option maxRecDepth 100000 in
theorem slow_any (rb B : Nat) (hrb : B ≤ rb) (x3 x4 : Value) (w : World) (hr : RepRow w rb 0 0 x3 x4) (hBw : B ≤ w.heap.size) (ho : OldNew w x4) :
    Calls Tryz.prog 169 #[.pointer (some ⟨rb, 0, none⟩), .func (.func 149) #[.pointer (some ⟨rb, 0, none⟩)] #[]] w fun e w' => e = .returned (.tuple #[]) ∧ Built B rb w w' := by
  have hnot : ∀ (x : Bool) (w : World), (Op.unary .not (.bool x)).run Tryz.prog w = .ok (.bool (!x)) w := fun _ _ => rfl
  have hr1 := hr.set1 1
  have ho1 := ho.set hr 1 (.int .i32 1)
  have hb1 : Below B w (w.setCell ⟨rb, 1, none⟩ (.int .i32 1)) := ((Below.refl _ _).mono hBw).setCell (p := ⟨rb, 1, none⟩) hrb _
  have hsz1 : B ≤ (w.setCell ⟨rb, 1, none⟩ (.int .i32 1)).heap.size := by simpa using hBw
  have hlock := Go.MuLone.lock_free muLib ⟨rb, 1, none⟩ w hr.cells.2.1 (frozen_row hr 1)
  generalize w.setCell ⟨rb, 1, none⟩ (.int .i32 1) = w1 at *
  have HLOAD := Lib.hid (loadB_any ⟨rb, 0, none⟩ 0 w1 hr1.cells.1)
  have HONCE := Lib.hid (once_any rb B hrb 0 1 x3 x4 w1 hr1 hsz1 ho1)
  have HLOCK := Lib.hid hlock
  clear hlock hr1 ho1 hr ho
  go_enter_defers Tryz.func169, Tryz.ntmps169
  go_wp2_with fail
  refine HLOCK.out.mono ?_
  rintro e w' ⟨rfl, rfl⟩
  go_wp2_with fail
  refine HLOAD.out.mono ?_
  rintro e w' ⟨rfl, rfl⟩
  go_wp2_with fail
  refine HONCE.out.mono ?_
  rintro e w2 ⟨rfl, sb, hr2, hbs2, hb2⟩
  have HR2 := Lib.hid hr2
  have HBS2 := Lib.hid hbs2
  have HB2 := Lib.hid hb2
  clear hr2 hbs2 hb2
  go_wp2_with fail
  refine leaves_cons (f := 193) (args := #[.pointer (some ⟨rb, 0, none⟩), .bool true]) (by simp) (by simp [go_sem]) ?_
  refine (store_deferred ⟨rb, 0, none⟩ (.int .u32 0) .returning _ HR2.out.cells.1 (frozen_row HR2.out 0)).mono ?_
  rintro e u' w3 ⟨rfl, rfl, hw3⟩
  have hd : RepRow w2.drew rb 0 1 (.iface 328 (.pointer (some ⟨sb, 0, none⟩))) (.slice none 0 0) := HR2.out
  have hr3 : RepRow w3 rb 1 1 (.iface 328 (.pointer (some ⟨sb, 0, none⟩))) (.slice none 0 0) := by rw [hw3]; exact hd.set0 1
  have hbs3 : Bsr w3 sb := by rw [hw3]; exact Bsr.set (w := w2.drew) ⟨HBS2.out.rep, HBS2.out.non, HBS2.out.tr⟩ hd 0 _
  have hb3 : Below B w w3 := by rw [hw3]; exact (below_drewN (hb1.trans HB2.out) 1).setCell (p := ⟨rb, 0, none⟩) hrb _
  clear hw3
  refine leaves_cons (f := 192) (args := #[.pointer (some ⟨rb, 1, none⟩)]) (by simp [settle]) (by simp [go_sem]) ?_
  refine (Go.MuLone.unlock_deferred muLib ⟨rb, 1, none⟩ _ _ hr3.cells.2.1 (frozen_row hr3 1)).mono ?_
  rintro e u' w4 ⟨rfl, rfl, hw4⟩
  have hbuilt : Built B rb w w4 := by
    rw [hw4]
    exact ⟨sb, hr3.set1 0, hbs3.set hr3 1 _, hb3.setCell (p := ⟨rb, 1, none⟩) hrb _⟩
  simp [Leaves, settle, results, Tryz.results169]
  exact hbuilt

set_option maxRecDepth 100000 in
theorem do_any (rb B : Nat) (hrb : B ≤ rb) (x3 x4 : Value) (w : World) (hr : RepRow w rb 0 0 x3 x4) (hBw : B ≤ w.heap.size) (ho : OldNew w x4) :
    Calls Tryz.prog 148 #[.pointer (some ⟨rb, 0, none⟩), .func (.func 149) #[.pointer (some ⟨rb, 0, none⟩)] #[]] w fun e w' => e = .returned (.tuple #[]) ∧ Built B rb w w' := by
  have HLOAD := Lib.hid (loadB_any ⟨rb, 0, none⟩ 0 w hr.cells.1)
  have HS := Lib.hid (slow_any rb B hrb x3 x4 w hr hBw ho)
  have hnot : ∀ (x : Bool) (w : World), (Op.unary .not (.bool x)).run Tryz.prog w = .ok (.bool (!x)) w := fun _ _ => rfl
  clear hr ho
  go_enter Tryz.func148, Tryz.ntmps148
  go_wp2_with fail
  refine HLOAD.out.mono ?_
  rintro e w' ⟨rfl, rfl⟩
  go_wp2_with fail
  refine HS.out.mono ?_
  rintro e w2 ⟨rfl, hb⟩
  have HB := Lib.hid hb
  clear hb
  go_wp2_with fail
  go_end0
  exact ⟨rfl, HB.out⟩

set_option maxHeartbeats 1000000 in
set_option maxRecDepth 100000 in
theorem replace_any (rb : Nat) (s : ByteArray) (x3 x4 : Value) (w : World) (B : Nat) (hrb : B ≤ rb) (hBw : B ≤ w.heap.size) (hs : s.size ≤ 140737488351232) (hr : RepRow w rb 0 0 x3 x4) (ho : OldNew w x4) :
    Calls Tryz.prog 133 #[.pointer (some ⟨rb, 0, none⟩), .string s] w fun e w' => e = .returned (.string ⟨(s.data.toList.filter keepX).toArray⟩) ∧ Below B w w' := by
  have HD := Lib.hid (do_any rb B hrb x3 x4 w hr hBw ho)
  have hmf : ∀ (fn : Fn) (first cap : Array Value) (w : World), (Instr.makeFunc fn first cap).run Tryz.prog w = .ok (.func fn first cap) w := fun _ _ _ _ => rfl
  obtain ⟨c0, c1, c3, c4⟩ := hr.cells
  clear hr ho
  go_enter Tryz.func133, Tryz.ntmps133
  go_wp2_with fail
  refine HD.out.mono ?_
  rintro e w1 ⟨rfl, sb, hr1, hbs, hb⟩
  obtain ⟨d0, d1, d3, d4⟩ := hr1.cells
  have hb1w := hb.size
  have HBSR := Lib.hid (bsr_any sb s w1 hbs hs)
  have HB := Lib.hid hb
  have hmet : ∀ W, (method 520 328 (.pointer (some ⟨sb, 0, none⟩)) "Replace").run Tryz.prog W = .ok (283, .pointer (some ⟨sb, 0, none⟩)) W := fun W => by kernel_rfl
  have hent : ∀ args W, (callFunc 283 args).run Tryz.prog W = .ok (.enter 283 args) W := fun args W => Go.MuLone.run_callFunc_enter Tryz.func283 (by kernel_rfl) rfl args W
  clear hr1 hbs hb
  go_wp2_with fail
  refine HBSR.out.mono ?_
  rintro e w2 ⟨rfl, b2⟩
  go_wp2_with fail
  go_ret
  exact ⟨rfl, HB.out.trans (b2.mono (Nat.le_trans hBw hb1w))⟩

theorem news4 (W : World) (nb : Nat) (a b c d : Value) (h0 : W.cell? ⟨nb, 0, none⟩ = some a) (h1 : W.cell? ⟨nb, 1, none⟩ = some b) (h2 : W.cell? ⟨nb, 2, none⟩ = some c) (h3 : W.cell? ⟨nb, 3, none⟩ = some d) : ∀ j u, [a, b, c, d][j]? = some u → W.cell? ((⟨nb, 0, none⟩ : Addr).add j) = some u := by
  intro j u h
  rw [Lib.add_plain, Nat.zero_add]
  match j, h with
  | 0, h => rw [h0]; exact h
  | 1, h => rw [h1]; exact h
  | 2, h => rw [h2]; exact h
  | 3, h => rw [h3]; exact h
  | j + 4, h => simp at h
set_option maxHeartbeats 1000000 in
set_option maxRecDepth 100000 in
theorem newRep_any (nb : Nat) (w : World) (h0 : w.cell? ⟨nb, 0, none⟩ = some (.string ⟨#[120]⟩)) (h1 : w.cell? ⟨nb, 1, none⟩ = some (.string ⟨#[]⟩)) (h2 : w.cell? ⟨nb, 2, none⟩ = some (.string ⟨#[47]⟩)) (h3 : w.cell? ⟨nb, 3, none⟩ = some (.string ⟨#[]⟩)) :
    Calls Tryz.prog 132 #[.slice (some ⟨nb, 0, none⟩) 4 4] w fun e w' => ∃ rb x4, e = .returned (.pointer (some ⟨rb, 0, none⟩)) ∧ w.heap.size ≤ rb ∧ RepRow w' rb 0 0 .nilIface x4 ∧ OldNew w' x4 ∧ Below w.heap.size w w' := by
  obtain ⟨si, hsi, hs0, hs1, hs2⟩ := strInfo
  have hnil := World.ownsRow_nil w w.heap.size 9 1
  go_enter Tryz.func132, Tryz.ntmps132
  go_wp2_with (at_builtin; refine wpList_append_own _ rfl _ _ 118 rfl w.heap.size 9 si (.string ⟨#[]⟩) 1 16 Tryz.underlying118 hsi hs0 hs1 hs2 rfl (by decide) _ _ _ rfl hnil ⟨nb, 0, none⟩ 4 4 [.string ⟨#[120]⟩, .string ⟨#[]⟩, .string ⟨#[47]⟩, .string ⟨#[]⟩] rfl rfl (news4 w nb _ _ _ _ h0 h1 h2 h3) (fun u hu => by simp at hu; rcases hu with rfl | rfl | rfl | rfl <;> rfl) (by unfold maxLen; simp) (by simp) (Nat.le_refl _) ?_)
  intro v' w1 hown hgrow _
  obtain ⟨g, cp, rfl⟩ := Joins.ownsRow_form hown (by simp)
  have b1 : Below w.heap.size w w1 := (Below.refl _ _).grown hgrow (Nat.le_refl _) (fun j hj => by cases hj)
  have hc := hown.cells (g := g) rfl
  have e0 := hc 0 _ rfl
  have e1 := hc 1 _ rfl
  have e2 := hc 2 _ rfl
  have e3 := hc 3 _ rfl
  rw [Lib.add_plain] at e0 e1 e2 e3
  have HOLD : OldNew w1 (.slice (some ⟨g, 0, none⟩) 4 cp) := ⟨g, cp, rfl, e0, e1, e2, e3⟩
  have HO := Lib.hid HOLD
  have HB1 := Lib.hid b1
  clear hown hgrow b1 hc e0 e1 e2 e3 hnil h0 h1 h2 h3
  go_wp2_with fail
  go_ret
  refine ⟨w1.heap.size, _, rfl, HB1.out.size, heap_one w1 _, HO.out.below (below_one w1 _), HB1.out.alloc HB1.out.size _⟩
end Go.Proofs.YtlahdjdbbfjadaaGreatDoor
