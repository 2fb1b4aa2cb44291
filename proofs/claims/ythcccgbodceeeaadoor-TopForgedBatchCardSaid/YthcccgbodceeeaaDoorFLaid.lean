/-
  From the row's list of package-level variables to what the walks know; the witness' world.
-/
import Derived.Test.YthcccgbodceeeaaDoorFW
import Derived.Test.YthcccgbodceeeaaDoorRows
import Derived.Test.YthcccgbodceeeaaDoorCards
import Derived.Test.YthcccgbodceeeaaDoorTie
import Derived.LaidLaws
import Derived.LaidHandle
import Derived.LaidSub
import Derived.Lib.LaidTab
import Derived.OpenShut
import Derived.Stop.LaidErr
import Derived.ProofKit
import Derived.Deep.DeepHandedRow
import Derived.Deep.DeepWitnessRowRef
import Derived.Lay
import Derived.SevenTiedAt
namespace Go.Proofs.YthcccgbodceeeaaDoor
open Go.RowKit Go.ChangeShapes Go.WideShapes Go.ChangeAt

/-- A stretch of sentinels at the head of a list: their addresses, and their places among all places. -/
theorem laid_sentsF {P : Program} {nm : String} {ti tp te ts : TypeId} {ms : Array (String × TypeId)} {f : Field} {W : World}
    (hi : P.underlying ti = some (.interface ms)) (hrow : ∀ u, P.typeName? 3 u = some nm → u = tp)
    (hp : P.underlying tp = some (.pointer te)) (he : P.underlying te = some (.struct #[f])) (hft : f.type = ts) (hfo : f.offset = 0) (hs : P.underlying ts = some .string) (hc : P.cellsOf te = 1) (hcs : P.cellsOf ts = 1) :
    ∀ (L : List (String × DataW Unit)) (r : List (String × DataW Unit)) (ps : List MemPlace),
      (∀ x ∈ L, (∃ g, P.globalNamed x.1 = some g ∧ (P.globals[g]?).map (·.type) = some ti) ∧ ∃ text, x.2 = .iface nm (.ptr (.agg [.lit (.string text)]))) →
      DataW.LaidVars P W (L ++ r) ps →
      (∀ b off, MemPlace.cell b off ∈ ps → (∃ c t, W.heap[b]? = some (.cells c t (0, 0))) ∧ ∀ u v, W.cell? ⟨b, off, none⟩ = some (.iface u v) → Value.okWide P W .any 0 u v) →
      ∃ (ads : List Addr) (q : List MemPlace), ads.length = L.length ∧ (∀ (i : Nat) (x : String × DataW Unit), L[i]? = some x → ∃ a, ads[i]? = some a ∧ W.var? P x.1 = some #[.iface tp (.pointer (some a))]) ∧
        (ads.map fun a => MemPlace.cell a.block a.off).Sublist ps ∧ DataW.LaidVars P W r q ∧ q.Sublist ps
  | [], r, ps, _, h, _ => ⟨[], ps, rfl, fun i x hx => by simp at hx, by simp, h, List.Sublist.refl _⟩
  | (n, d) :: L, r, ps, hL, h, hrows => by
    obtain ⟨⟨g0, hg0, ht0⟩, text, hdt⟩ := hL (n, d) (List.mem_cons_self ..)
    obtain rfl : d = _ := hdt
    obtain ⟨g, t, cs, fuel, p, q, hg, ht, hv, hd, hr, rfl⟩ := h
    obtain rfl := Option.some.inj (hg0.symm.trans hg)
    obtain rfl := Option.some.inj (ht0.symm.trans ht)
    obtain ⟨l0⟩ := cs
    have ok0 : ∀ u v, l0 = [.iface u v] → Value.okWide P W .any 0 u v := fun u v e => by
      subst e
      exact (hrows g0 0 (by simp [MemPlace.row])).2 u v (by simpa using World.var?_cell hg hv 0)
    obtain ⟨a, s, rfl, hc0, hs0, hz0, rfl⟩ := errorString_of_trod hi hrow hp he hft hfo hs hc hcs hd ok0
    obtain ⟨ads, q', hlen, hvars, hsub, hr', hq'⟩ := laid_sentsF hi hrow hp he hft hfo hs hc hcs L r q (fun x hx => hL x (List.mem_cons_of_mem _ hx)) hr
      (fun b off hm => hrows b off (List.mem_append_right _ hm))
    refine ⟨a :: ads, q', by simp [hlen], fun i x hx => ?_, ?_, hr', hq'.trans (List.sublist_append_right _ _)⟩
    · cases i with
      | zero =>
        simp only [List.getElem?_cons_zero, Option.some.injEq] at hx
        subst hx
        exact ⟨a, rfl, hv⟩
      | succ i => exact hvars i x (by simpa using hx)
    · rw [List.map_cons]
      have h1 : [MemPlace.cell a.block a.off].Sublist (MemPlace.row a 1) := by simp [MemPlace.row]
      exact (h1.trans (List.sublist_append_right _ _)).append hsub

abbrev LX : List (String × DataW Unit) := Rows.topForgedBatchRow.laid
def nmOfF : DataW Unit → String
  | .iface n _ => n
  | _ => default
noncomputable def sentOkF (x : String × DataW Unit) : Bool :=
  (match Tryd.prog.globalNamed x.1 with | some g => (Tryd.prog.globals[g]?).map (·.type) == some 35 | none => false) &&
  (match x.2 with | .iface n (.ptr (.agg [.lit (.string _)])) => n == "*errors.errorString" | _ => false)
theorem sentOkF_spec {x : String × DataW Unit} (h : sentOkF x = true) :
    (∃ g, Tryd.prog.globalNamed x.1 = some g ∧ (Tryd.prog.globals[g]?).map (·.type) = some 35) ∧ ∃ text, x.2 = .iface "*errors.errorString" (.ptr (.agg [.lit (.string text)])) := by
  unfold sentOkF at h
  rw [Bool.and_eq_true] at h
  obtain ⟨h1, h2⟩ := h
  constructor
  · split at h1
    · rename_i g hg
      exact ⟨g, hg, by simpa using h1⟩
    · cases h1
  · split at h2
    · rename_i n text hx
      exact ⟨text, by rw [hx, (by simpa using h2 : n = "*errors.errorString")]⟩
    · cases h2
theorem lx_filter : (LX.filter fun x => x.2.handleName?.isNone) = LX.take 5 ++ LX.drop 5 := by kernel_rfl
theorem lx_sentOk : (LX.take 5).all sentOkF = true := by kernel_rfl
theorem lx_names : ∀ i, i < 5 → ∃ x, (LX.take 5)[i]? = some x ∧ Tryd.prog.globalNamed x.1 = some (errG i) := by
  intro i h2
  rcases (show i = 0 ∨ i = 1 ∨ i = 2 ∨ i = 3 ∨ i = 4 by omega) with rfl | rfl | rfl | rfl | rfl <;> exact ⟨_, rfl, by kernel_rfl⟩
theorem starF : "*" ++ "errors.errorString" = "*errors.errorString" := by decide
theorem rowF (u : TypeId) (h : Tryd.prog.typeName? 3 u = some "*errors.errorString") : u = 125 :=
  typeName_ptr_named (nm := "errors.errorString") (by rw [starF]; kernel_rfl) (by kernel_rfl) (by decide) u (by rw [starF]; exact h)
theorem heap_of_varF {P : Program} {w : World} {n : String} {g : Nat} {cs : Array Value} (hg : P.globalNamed n = some g) (h : w.var? P n = some cs) : ∃ t fr, w.heap[g]? = some (.cells cs t fr) := by
  simp only [World.var?, hg, Option.bind_some] at h
  split at h
  · rename_i c t fr hc
    cases h
    exact ⟨t, fr, hc⟩
  · cases h

theorem gShaF : Tryd.prog.globalNamed "cartulary/sha.table" = some 5 := by kernel_rfl
theorem lx_tab : ((LX.filter fun x => x.1 == "cartulary/sha.table").filter fun x => x.2.handleName?.isNone) = [("cartulary/sha.table", Lib.tabData .u32 (shaK.map fun x : Nat => (x : Int)))] := by kernel_rfl
theorem tabSha_of_lx {W : World} (h : laidMetH Tryd.prog LX W) : TabSha W := by
  have h2 := h.filter fun x => x.1 == "cartulary/sha.table"
  obtain ⟨hm, _⟩ := laidMetH_iff.1 h2
  rw [lx_tab] at hm
  have ht := Lib.tabIs_of_head gShaF (by kernel_rfl) Tryd.underlying112 Tryd.underlying100 (by kernel_rfl) (by kernel_rfl) hm
  obtain ⟨t, fr, hh⟩ := heap_of_varF gShaF ht
  refine ⟨t, fr, ?_⟩
  rw [hh]
  unfold u32s
  rw [List.map_map]
  rfl
theorem fw_of_laid {W : World} (h : laidMetH Tryd.prog LX W) : ∃ S, FW S W := by
  have ht := tabSha_of_lx h
  obtain ⟨hm, _⟩ := laidMetH_iff.1 h
  rw [lx_filter] at hm
  obtain ⟨ps, hv, hnd, hrows⟩ := hm
  obtain ⟨ads, q, hlen, hvars, hsub, _, _⟩ := laid_sentsF (f := _) Tryd.underlying35 (fun u hu => rowF u hu)
    Tryd.underlying125 Tryd.underlying150 rfl rfl Tryd.underlying9 (by kernel_rfl) (by kernel_rfl)
    _ _ ps (fun x hx => sentOkF_spec (List.all_eq_true.1 lx_sentOk x hx)) hv hrows
  refine ⟨fun i => ads.getD i default, fun i hi => ?_, ht, ?_⟩
  · obtain ⟨x, hx, hg⟩ := lx_names i hi
    obtain ⟨a, ha, hv⟩ := hvars i x hx
    have hc : W.cell? ⟨errG i, 0, none⟩ = some (.iface 125 (.pointer (some a))) := by simpa using World.var?_cell hg hv 0
    rw [hc]
    simp [errV, List.getD_eq_getElem?_getD, ha]
  · obtain ⟨t, fr, hh⟩ := ht
    exact lt_of_heap hh

/-! ### the witness' world -/
theorem ownX : ownKnob Tryd.prog.godebug = none := by kernel_rfl
noncomputable def wX0 (os : Os) : World := World.holding Tryd.prog os ⟨#[], #[], []⟩
noncomputable def witX (os : Os) : World := (wX0 os).layVars Tryd.prog LX
theorem witX_os (os : Os) : (witX os).os = os := World.layVars_os _ _ _
set_option maxRecDepth 1000000 in
theorem witX_fits (os : Os) : (wX0 os).layFits Tryd.prog LX [] = true := by kernel_rfl
set_option maxRecDepth 1000000 in
theorem witX_ifaces (os : Os) : (wX0 os).layIfaces Tryd.prog LX (witX os) = true := by kernel_rfl
theorem witX_plain (os : Os) : laidMet Tryd.prog LX (witX os) := by
  have e1 : (LX.filter fun x => (LX.map (·.1)).contains x.1) = LX := List.filter_eq_self.2 fun x hx => List.contains_iff_mem.2 (List.mem_map.2 ⟨x, hx, rfl⟩)
  have e2 : (LX.filter fun x => !(LX.map (·.1)).contains x.1) = [] := List.filter_eq_nil_iff.2 fun x hx => by rw [List.contains_iff_mem.2 (List.mem_map.2 ⟨x, hx, rfl⟩)]; simp
  exact laidMet_layVars (w0 := wX0 os) (LX.map (·.1)) [] (by rw [e1]; rfl) (by rw [e1]; exact witX_fits os) (by rw [e1]; exact witX_ifaces os) (by rw [e2]; exact LaidIn.none)
theorem lx_filter3 : (LX.filter fun x => x.2.handleName?.isNone) = LX := by kernel_rfl
theorem lx_filter4 : (LX.filter fun x => x.2.handleName?.isSome) = [] := by kernel_rfl
theorem witX_met (os : Os) (args : Array Value) : laidMetH Tryd.prog LX ((witX os).forCall (fun _ _ => 0) ⟨#[], args, []⟩).memory :=
  laidMetH_of_parts (by rw [lx_filter3]; exact (witX_plain os).of_heap (by simp [World.memory, World.forCall, Input.heap])) (by rw [lx_filter4]; rfl)
end Go.Proofs.YthcccgbodceeeaaDoor
