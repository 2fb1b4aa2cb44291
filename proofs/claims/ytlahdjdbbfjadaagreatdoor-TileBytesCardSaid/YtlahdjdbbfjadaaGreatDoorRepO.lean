/-
  strings.NewReplacer, (*strings.Replacer).Replace by contracts: through sync.Once.
-/
import Derived.Test.YtlahdjdbbfjadaaGreatDoorRepR
import Derived.Conc.MuLone
import Derived.Defers
import Derived.Laws.LoneSync
import Derived.Laws.NewBlocks
import Derived.RegionTactic
import Derived.RegionCalls
import Derived.ChangeAlike
import Derived.Tactics
import Derived.Tactics2
import Derived.Laws.Pointers
namespace Go.Proofs.YtlahdjdbbfjadaaGreatDoor
open Go.RowKit Go.MuLone

/-- The Replacer's row. -/
def RepRow (w : World) (rb : Nat) (d st : Int) (x3 x4 : Value) : Prop := w.heap[rb]? = some (.cells #[.int .u32 d, .int .i32 st, .int .u32 0, x3, x4] 248 (0, 0))
theorem RepRow.cells {w : World} {rb : Nat} {d st : Int} {x3 x4 : Value} (h : RepRow w rb d st x3 x4) : w.cell? ⟨rb, 0, none⟩ = some (.int .u32 d) ∧ w.cell? ⟨rb, 1, none⟩ = some (.int .i32 st) ∧ w.cell? ⟨rb, 3, none⟩ = some x3 ∧ w.cell? ⟨rb, 4, none⟩ = some x4 :=
  ⟨cell_of h 0 rfl, cell_of h 1 rfl, cell_of h 3 rfl, cell_of h 4 rfl⟩
theorem RepRow.set0 {w : World} {rb : Nat} {d st : Int} {x3 x4 : Value} (h : RepRow w rb d st x3 x4) (e : Int) : RepRow (w.setCell ⟨rb, 0, none⟩ (.int .u32 e)) rb e st x3 x4 := setC_heap h 0 _
theorem RepRow.set1 {w : World} {rb : Nat} {d st : Int} {x3 x4 : Value} (h : RepRow w rb d st x3 x4) (e : Int) : RepRow (w.setCell ⟨rb, 1, none⟩ (.int .i32 e)) rb d e x3 x4 := setC_heap h 1 _
theorem RepRow.set3 {w : World} {rb : Nat} {d st : Int} {x3 x4 : Value} (h : RepRow w rb d st x3 x4) (v : Value) : RepRow (w.setCell ⟨rb, 3, none⟩ v) rb d st v x4 := setC_heap h 3 _
theorem RepRow.set4 {w : World} {rb : Nat} {d st : Int} {x3 x4 : Value} (h : RepRow w rb d st x3 x4) (v : Value) : RepRow (w.setCell ⟨rb, 4, none⟩ v) rb d st x3 v := setC_heap h 4 _
theorem cellC_other {w : World} {rb i j k : Nat} {v u : Value} (h : w.cell? ⟨j, k, none⟩ = some u) (hne : j ≠ rb) : (w.setCell ⟨rb, i, none⟩ v).cell? ⟨j, k, none⟩ = some u :=
  (World.cell?_setCell_other _ _ _ _ (fun e => hne (congrArg Addr.block e).symm)).trans h
theorem Bsr.set {w : World} {sb rb : Nat} {d st : Int} {x3 x4 : Value} (h : Bsr w sb) (hr : RepRow w rb d st x3 x4) (i : Nat) (v : Value) : Bsr (w.setCell ⟨rb, i, none⟩ v) sb := by
  obtain ⟨tb, cap, e1, e2, e3⟩ := h.tr
  have hsb : sb ≠ rb := by
    rintro rfl
    unfold RepRow at hr
    simp [World.cell?, hr] at e1
  have htb : tb ≠ rb := by
    rintro rfl
    rw [hr.cells.1] at e2
    cases e2
  exact ⟨fun c hc => by
    obtain ⟨a, cap, h'⟩ := h.rep c hc
    exact ⟨a, cap, cellC_other h' hsb⟩, fun c hc => cellC_other (h.non c hc) hsb, tb, cap, cellC_other e1 hsb, cellC_other e2 htb, cellC_other e3 htb⟩

/-- The strings that NewReplacer was given. -/
def OldNew (w : World) (v : Value) : Prop := ∃ ob cap, v = .slice (some ⟨ob, 0, none⟩) 4 cap ∧ w.cell? ⟨ob, 0, none⟩ = some (.string ⟨#[120]⟩) ∧ w.cell? ⟨ob, 1, none⟩ = some (.string ⟨#[]⟩) ∧ w.cell? ⟨ob, 2, none⟩ = some (.string ⟨#[47]⟩) ∧ w.cell? ⟨ob, 3, none⟩ = some (.string ⟨#[]⟩)
set_option maxHeartbeats 1000000 in
set_option maxRecDepth 100000 in
theorem once_any (rb B : Nat) (hrb : B ≤ rb) (d st : Int) (x3 x4 : Value) (w : World) (hr : RepRow w rb d st x3 x4) (hBw : B ≤ w.heap.size) (ho : OldNew w x4) :
    Calls Tryz.prog 149 #[.pointer (some ⟨rb, 0, none⟩)] w fun e w' => e = .returned (.tuple #[]) ∧ ∃ sb, RepRow w' rb d st (.iface 328 (.pointer (some ⟨sb, 0, none⟩))) (.slice none 0 0) ∧ Bsr w' sb ∧ Below B w w' := by
  obtain ⟨ob, cap, rfl, o0, o1, o2, o3⟩ := ho
  obtain ⟨c0, c1, c3, c4⟩ := hr.cells
  have HBU := Lib.hid (build_any rb ob cap w c4 o0 o1 o2 o3)
  have HR := Lib.hid hr
  clear hr o0 o1 o2 o3
  go_enter Tryz.func149, Tryz.ntmps149
  go_wp2_with fail
  refine HBU.out.mono ?_
  rintro e w1 ⟨sb, rfl, b1, hb⟩
  have hr1 : RepRow w1 rb d st x3 _ := below_heap b1 HR.out
  obtain ⟨d0, d1, d3, d4⟩ := hr1.cells
  have f1 := frozen_row hr1
  have HR1 := Lib.hid hr1
  have HB1 := Lib.hid b1
  have HBS := Lib.hid hb
  clear hr1 b1 hb
  go_wp2_with fail
  go_end0
  exact ⟨rfl, sb, (HR1.out.set3 _).set4 _, (HBS.out.set HR1.out 3 _).set (HR1.out.set3 _) 4 _, ((HB1.out.mono hBw).setCell (p := ⟨rb, 3, none⟩) hrb _).setCell (p := ⟨rb, 4, none⟩) hrb _⟩

theorem loadB_any (a : Addr) (x : Int) (w : World) (h : w.cell? a = some (.int .u32 x)) : Calls Tryz.prog 168 #[.pointer (some a)] w fun e w' => e = .returned (.bool (x != 0)) ∧ w = w' := by
  have hl := run_call_load (P := Tryz.prog) Tryz.func190 (by kernel_rfl) (by kernel_rfl) (by kernel_rfl) .u32 (by kernel_rfl) h
  go_enter Tryz.func168, Tryz.ntmps168
  go_wp2
  go_ret
  exact ⟨rfl, rfl⟩
theorem store_deferred (a : Addr) (x : Value) (u : FrameMode) (w : World) (hc : w.cell? a = some x) (hz : w.frozen? a = false) :
    CallsD Tryz.prog 193 #[.pointer (some a), .bool true] u w fun e u' w' => u' = u ∧ (e = .returned (.tuple #[]) ∧ w' = w.drew.setCell a (.int .u32 1)) := by
  have hc' : w.drew.cell? a = some x := by go_simp
  have hz' : w.drew.frozen? a = false := by go_simp
  have hst := run_call_store (P := Tryz.prog) Tryz.func210 (by kernel_rfl) (by kernel_rfl) (by kernel_rfl) (by kernel_rfl) (k := .u32) (y := 1) hc' hz'
  go_enter_d Tryz.func193, Tryz.ntmps193
  go_wp2
  go_region_calls
  all_goals (go_end0; exact ⟨rfl, rfl⟩)
end Go.Proofs.YtlahdjdbbfjadaaGreatDoor
