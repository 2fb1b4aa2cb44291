/-
  strings.Replacer: what its build lays: a byteStringReplacer that takes x and / out.
-/
import Derived.Test.YtlahdjdbbfjadaaGreatDoorTileRow
import Derived.Test.YtlahdjdbbfjadaaGreatDoorTileP
import Derived.Test.YtlahdjdbbfjadaaGreatDoorTileMay
import Derived.Test.YtlahdjdbbfjadaaGreatDoorMuLock
import Derived.Test.YtlahdjdbbfjadaaGreatDoorAs
import Derived.BigQuiet
import Derived.Lib.ConvBytes
import Derived.Lib.SmallJoins
namespace Go.Proofs.YtlahdjdbbfjadaaGreatDoor
open Go.RowKit

/-- A byteStringReplacer that takes out / and x. -/
structure Bsr (w : World) (sb : Nat) : Prop where
  rep : ∀ c : UInt8, keepX c = false → ∃ a cap, w.cell? ⟨sb, c.toNat, none⟩ = some (.slice (some a) 0 cap)
  non : ∀ c : UInt8, keepX c = true → w.cell? ⟨sb, c.toNat, none⟩ = some (.slice none 0 0)
  tr : ∃ tb cap, w.cell? ⟨sb, 256, none⟩ = some (.slice (some ⟨tb, 0, none⟩) 2 cap) ∧ w.cell? ⟨tb, 0, none⟩ = some (.string ⟨#[47]⟩) ∧ w.cell? ⟨tb, 1, none⟩ = some (.string ⟨#[120]⟩)
theorem Bsr.below {w w' : World} {sb : Nat} (h : Bsr w sb) (hb : Below w.heap.size w w') : Bsr w' sb where
  rep := fun c hc => by
    obtain ⟨a, cap, h1⟩ := h.rep c hc
    exact ⟨a, cap, below_cell hb h1⟩
  non := fun c hc => below_cell hb (h.non c hc)
  tr := by
    obtain ⟨tb, cap, h1, h2, h3⟩ := h.tr
    exact ⟨tb, cap, below_cell hb h1, below_cell hb h2, below_cell hb h3⟩

/-- The replacer while it is laid: D are the bytes that are in. -/
structure BldR (w wr : World) (sb : Nat) (D : List UInt8) (vt : Value) (cs : Array Value) : Prop where
  bel : Below w.heap.size w wr
  le : w.heap.size ≤ sb
  row : wr.heap[sb]? = some (.cells cs 327 (0, 0))
  size : cs.size = 257
  rep : ∀ c : UInt8, c ∈ D → ∃ a cap, cs[c.toNat]? = some (.slice (some a) 0 cap)
  non : ∀ c : UInt8, c ∉ D → cs[c.toNat]? = some (.slice none 0 0)
  last : cs[256]? = some vt
  own : wr.ownsRow w.heap.size 9 1 vt D.length (D.map fun c => .string ⟨#[c]⟩)
def BldRel (w : World) (sb : Nat) (vi : Value) (wr : World) : Prop :=
  ∃ D vt cs, ((D = [] ∧ vi = .int .i64 2) ∨ (D = [47] ∧ vi = .int .i64 0) ∨ (D = [47, 120] ∧ vi = .int .i64 (-2))) ∧ BldR w wr sb D vt cs
theorem zero172 : Tryz.zeroCells327.toList = List.replicate 257 (.slice none 0 0) := by kernel_rfl
theorem set_last (x v : Value) (n : Nat) : (List.replicate (n + 1) x).set n v = List.replicate n x ++ [v] := by
  rw [List.replicate_succ', List.set_append_right _ _ (by simp)]
  simp
theorem row_last (x v : Value) (n k : Nat) : ((List.replicate n x ++ [v]).toArray)[k]? = if k < n then some x else if k = n then some v else none := by
  rw [List.getElem?_toArray, List.getElem?_append]
  simp only [List.length_replicate, List.getElem?_replicate]
  by_cases h : k < n
  · rw [if_pos h, if_pos h, if_pos h]
  · rw [if_neg h, if_neg h]
    by_cases h2 : k = n
    · subst h2; rw [if_pos rfl, Nat.sub_self]; rfl
    · rw [if_neg h2, List.getElem?_eq_none (by simp; omega)]
theorem whole_store {cs X : List Value} (h : X.length = cs.length) : cs.take (0 + 0) ++ X ++ cs.drop (0 + 0 + X.length) = X := by
  rw [List.drop_eq_nil_of_le (by omega)]
  simp
theorem all_one {x v : Value} (n : Nat) (hx : x.oneCell' = true) (hv : v.oneCell' = true) : ∀ u ∈ List.replicate n x ++ [v], u.oneCell' = true := by
  intro u hu
  rcases List.mem_append.1 hu with h | h
  · rw [List.eq_of_mem_replicate h]; exact hx
  · rw [List.mem_singleton.1 h]; exact hv
theorem own_heap {w w' : World} {B : Nat} {e : TypeId} {size : Nat} {v : Value} {n : Nat} {xs : List Value} (h : w.ownsRow B e size v n xs) (hb : ∀ g, v.ownBlock = some g → w'.heap[g]? = w.heap[g]?) : w'.ownsRow B e size v n xs := by
  refine ⟨h.1, ?_⟩
  rcases h.2 with h' | ⟨g, cap, cur, rfl, hg, hh, hr⟩
  · exact .inl h'
  · exact .inr ⟨g, cap, cur, rfl, hg, (hb g rfl).trans hh, hr⟩
/-- The replacer's row, once laid. -/
theorem store172 (W : World) (sb : Nat) (v : Value) (hv : v.oneCell' = true) (h : W.heap[sb]? = some (.cells Tryz.zeroCells327 327 (0, 0))) :
    (storeCells ⟨sb, 0, none⟩ (Tryz.zeroCells327.toList.set 256 v)).run Tryz.prog W = .ok () (W.setRow sb (List.replicate 256 (Value.slice none 0 0) ++ [v]).toArray) := by
  have hz := zero172
  have e : Tryz.zeroCells327.toList.set 256 v = List.replicate 256 (Value.slice none 0 0) ++ [v] := by
    rw [hz]
    exact set_last _ _ 256
  have hlen : (List.replicate 256 (Value.slice none 0 0) ++ [v]).length = Tryz.zeroCells327.toList.length := by
    rw [hz, List.length_append, List.length_replicate, List.length_replicate]
    rfl
  have h1 := run_storeCells_at Tryz.prog sb 0 327 (List.replicate 256 (Value.slice none 0 0) ++ [v]) 0 _ W h (by rw [hlen, Array.length_toList]; omega) (all_one 256 rfl hv)
  rw [whole_store hlen] at h1
  rw [e]
  exact h1
theorem strInfo : ∃ i, Tryz.prog.info? 9 = some i ∧ i.zero = some (.string ⟨#[]⟩) ∧ i.size = 1 ∧ i.bytes = 16 := by
  have h : (Tryz.prog.info? 9).map (fun i => (i.zero, i.size, i.bytes)) = some (some (.string ⟨#[]⟩), 1, 16) := by kernel_rfl
  cases hq : Tryz.prog.info? 9 with
  | none => rw [hq] at h; cases h
  | some i =>
    rw [hq] at h
    simp only [Option.map_some, Option.some.injEq, Prod.mk.injEq] at h
    exact ⟨i, rfl, h.1, h.2.1, h.2.2⟩
theorem ownBlock_neT {w : World} {B : Nat} {e T : TypeId} {v : Value} {n : Nat} {xs : List Value} {b : Nat} {cs : Array Value} {fr : Nat × Nat} (hown : w.ownsRow B e 1 v n xs) (hb : w.heap[b]? = some (.cells cs T fr)) (hTe : T ≠ e) : v.ownBlock ≠ some b := by
  rcases hown.2 with ⟨rfl, _⟩ | ⟨g, cap, cur, rfl, _, hg, _⟩
  · intro h; cases h
  · intro h
    have : g = b := Option.some.inj h
    subst this
    rw [hb] at hg
    injection hg with hg
    injection hg with _ h2 _
    exact hTe h2
theorem news1 (W : World) (o : Obj) (x : Value) : ∀ j u, [x][j]? = some u → ((W.alloc o).alloc (.cells #[x] 9)).cell? ((⟨W.heap.size + 1, 0, none⟩ : Addr).add j) = some u := by
  intro j u h
  cases j with
  | zero =>
    obtain rfl := Option.some.inj h
    rw [Lib.add_plain]
    exact cell_of (heap_2b W o _) 0 rfl
  | succ j => simp at h
theorem nil_eq (W : World) : (binOp BinOp.eql 81 (.slice none 0 0) (.slice none 0 0)).run Tryz.prog W = .ok (.bool true) W := by kernel_rfl
theorem nil_ne (W : World) : (binOp BinOp.neq 81 (.slice none 0 0) (.slice none 0 0)).run Tryz.prog W = .ok (.bool false) W := by kernel_rfl
theorem some_ne (a : Addr) (n c : Nat) (W : World) : (binOp BinOp.neq 81 (.slice (some a) n c) (.slice none 0 0)).run Tryz.prog W = .ok (.bool true) W := by kernel_rfl
theorem setC_heap {W : World} {g : Nat} {cs : Array Value} {t : TypeId} {fr : Nat × Nat} (h : W.heap[g]? = some (.cells cs t fr)) (i : Nat) (v : Value) : (W.setCell ⟨g, i, none⟩ v).heap[g]? = some (.cells (cs.setIfInBounds i v) t fr) := by
  unfold World.setCell
  rw [Array.getElem?_modify, if_pos rfl, h]
  rfl
theorem setC_other (W : World) (b i : Nat) (v : Value) {g : Nat} (h : g ≠ b) : (W.setCell ⟨b, i, none⟩ v).heap[g]? = W.heap[g]? := by
  unfold World.setCell
  rw [Array.getElem?_modify, if_neg (fun e => h e.symm)]
theorem bytes_below {a w : World} (h : Below a.heap.size a w) (e : TypeId) (s : ByteArray) : Below a.heap.size a (Lib.bytesWorld w e s) :=
  ⟨h.os, h.tape, h.output, Nat.le_trans h.size (by rw [Lib.bytesWorld_size]; omega), fun k hk => (Lib.bytesWorld_at_old w e s k (by have := h.size; omega)).trans (h.block k hk)⟩
theorem bytes_own {w : World} {B : Nat} {e : TypeId} {size : Nat} {v : Value} {n : Nat} {xs : List Value} (h : w.ownsRow B e size v n xs) (e2 : TypeId) (s : ByteArray) : (Lib.bytesWorld w e2 s).ownsRow B e size v n xs :=
  own_heap h fun g hg => Lib.bytesWorld_at_old w e2 s g (h.lt g hg).2
theorem BldR.step {w wr W : World} {sb : Nat} {D : List UInt8} {vt v' x : Value} {cs : Array Value} {C : UInt8} (h : BldR w wr sb D vt cs) (hx : ∃ a cap, x = .slice (some a) 0 cap) (hb : Below w.heap.size w W)
    (hrow : W.heap[sb]? = some (.cells (cs.setIfInBounds 256 v') 327 (0, 0))) (hown : W.ownsRow w.heap.size 9 1 v' (D.length + 1) ((D.map fun c => Value.string ⟨#[c]⟩) ++ [.string ⟨#[C]⟩])) :
    BldR w (W.setCell ⟨sb, C.toNat, none⟩ x) sb (D ++ [C]) v' ((cs.setIfInBounds 256 v').setIfInBounds C.toNat x) := by
  have hC := UInt8.toNat_lt C
  have hsz := h.size
  refine ⟨hb.setCell (p := ⟨sb, C.toNat, none⟩) h.le _, h.le, setC_heap hrow _ _, by simp [hsz], fun c hc => ?_, fun c hc => ?_, ?_, ?_⟩
  · have hc8 := UInt8.toNat_lt c
    by_cases e : c = C
    · subst e
      obtain ⟨a, cap, rfl⟩ := hx
      exact ⟨a, cap, by rw [Array.getElem?_setIfInBounds_self_of_lt (by simp [hsz]; omega)]⟩
    · have hne : C.toNat ≠ c.toNat := fun h => e (UInt8.toNat_inj.1 h.symm)
      rw [Array.getElem?_setIfInBounds_ne hne, Array.getElem?_setIfInBounds_ne (by omega)]
      rcases List.mem_append.1 hc with h1 | h1
      · exact h.rep c h1
      · exact absurd (List.mem_singleton.1 h1) e
  · have hc8 := UInt8.toNat_lt c
    have e : c ≠ C := fun e => hc (List.mem_append_right _ (List.mem_singleton.2 e))
    have hne : C.toNat ≠ c.toNat := fun h => e (UInt8.toNat_inj.1 h.symm)
    rw [Array.getElem?_setIfInBounds_ne hne, Array.getElem?_setIfInBounds_ne (by omega)]
    exact h.non c fun hm => hc (List.mem_append_left _ hm)
  · rw [Array.getElem?_setIfInBounds_ne (by omega), Array.getElem?_setIfInBounds_self_of_lt (by omega)]
  · rw [List.length_append, List.map_append]
    exact own_heap hown fun g hg => setC_other W sb _ _ (by rintro rfl; exact ownBlock_neT hown hrow (by decide) hg)
def LookRel (va vi : Value) : Prop := (va = .bool true ∧ vi = .int .i64 0) ∨ (va = .bool false ∧ vi = .int .i64 2) ∨ (va = .bool false ∧ vi = .int .i64 4)
set_option maxHeartbeats 2000000 in
set_option maxRecDepth 100000 in
theorem build_any (rb ob cap : Nat) (w : World) (h4 : w.cell? ⟨rb, 4, none⟩ = some (.slice (some ⟨ob, 0, none⟩) 4 cap))
    (o0 : w.cell? ⟨ob, 0, none⟩ = some (.string ⟨#[120]⟩)) (o1 : w.cell? ⟨ob, 1, none⟩ = some (.string ⟨#[]⟩)) (o2 : w.cell? ⟨ob, 2, none⟩ = some (.string ⟨#[47]⟩)) (o3 : w.cell? ⟨ob, 3, none⟩ = some (.string ⟨#[]⟩)) :
    Calls Tryz.prog 170 #[.pointer (some ⟨rb, 0, none⟩)] w fun e w' => ∃ sb, e = .returned (.iface 328 (.pointer (some ⟨sb, 0, none⟩))) ∧ Below w.heap.size w w' ∧ Bsr w' sb := by
  go_enter Tryz.func170, Tryz.ntmps170
  go_wp2_with fail
  go_loop [4, 5] (fun va vi => LookRel va vi) (fun _ vi => 4 - (intOf vi).toNat)
  case atStart => exact .inl ⟨rfl, rfl⟩
  case round =>
    rcases hrel with ⟨rfl, rfl⟩ | ⟨rfl, rfl⟩ | ⟨rfl, rfl⟩
    · go_wp2_with fail
      go_round
      case rel => exact .inr (.inl ⟨rfl, rfl⟩)
      case measure => simp [intOf]
    · go_wp2_with fail
      go_round
      case rel => exact .inr (.inr ⟨rfl, rfl⟩)
      case measure => simp [intOf]
    · have hmk : (Instr.makeSlice 118 (.int .i64 0) (.int .i64 2)).run Tryz.prog w = .ok (.slice (some ⟨w.heap.size, 0, none⟩) 0 2) (w.alloc (.cells #[.string ⟨#[]⟩, .string ⟨#[]⟩] 9)) := by kernel_rfl
      have hst := store172 _ (w.heap.size + 1) (.slice (some ⟨w.heap.size, 0, none⟩) 0 2) rfl (heap_2b w (.cells #[.string ⟨#[]⟩, .string ⟨#[]⟩] 9) (.cells Tryz.zeroCells327 327))
      have hown : ((w.alloc (.cells #[.string ⟨#[]⟩, .string ⟨#[]⟩] 9))).ownsRow w.heap.size 9 1 (.slice (some ⟨w.heap.size, 0, none⟩) 0 2) 0 [] := World.ownsRow_made w #[.string ⟨#[]⟩, .string ⟨#[]⟩] 2 (Nat.le_refl _) (by decide) rfl
      have h0 : BldR w (((w.alloc (.cells #[.string ⟨#[]⟩, .string ⟨#[]⟩] 9)).alloc (.cells Tryz.zeroCells327 327)).setRow (w.heap.size + 1) (List.replicate 256 (Value.slice none 0 0) ++ [Value.slice (some ⟨w.heap.size, 0, none⟩) 0 2]).toArray) (w.heap.size + 1) [] (.slice (some ⟨w.heap.size, 0, none⟩) 0 2) (List.replicate 256 (Value.slice none 0 0) ++ [Value.slice (some ⟨w.heap.size, 0, none⟩) 0 2]).toArray := {
        bel := below_setRow (below_two w _ _) (by omega) _
        le := by omega
        row := setRow_heap _ _ _ _ _ _ (heap_2b w _ _)
        size := by rw [List.size_toArray, List.length_append, List.length_replicate]; rfl
        rep := fun c hc => by cases hc
        non := fun c _ => by rw [row_last, if_pos (UInt8.toNat_lt c)]
        last := by rw [row_last, if_neg (by omega), if_pos rfl]
        own := own_heap (hown.alloc _) fun g hg => by
          have : g = w.heap.size := (Option.some.inj hg).symm
          exact setRow_other _ _ _ _ (by omega) }
      generalize (((w.alloc (.cells #[.string ⟨#[]⟩, .string ⟨#[]⟩] 9)).alloc (.cells Tryz.zeroCells327 327)).setRow (w.heap.size + 1) (List.replicate 256 (Value.slice none 0 0) ++ [Value.slice (some ⟨w.heap.size, 0, none⟩) 0 2]).toArray) = W0 at hst h0
      have H0 := Lib.hid h0
      clear hown h0
      obtain ⟨si, hsi, hs0, hs1, hs2⟩ := strInfo
      have HSI := Lib.hid hsi
      have HSZ := Lib.hid (And.intro hs0 (And.intro hs1 hs2))
      clear hsi hs0 hs1 hs2
      go_wp2_with fail
      go_loopw [12] (fun vi wr => BldRel w (w.heap.size + 1) vi wr) (fun vi _ => (intOf vi + 4).toNat)
      case atStart => exact ⟨[], _, _, .inl ⟨rfl, rfl⟩, H0.out⟩
      case round =>
        obtain ⟨D, vt, cs, hD, hR⟩ := hrel
        rcases hD with ⟨rfl, rfl⟩ | ⟨rfl, rfl⟩ | ⟨rfl, rfl⟩
        · have q0 := below_cell hR.bel o2
          have q1 := below_cell hR.bel o3
          have hn := cell_of hR.row 47 (hR.non 47 (by decide))
          have hl := cell_of hR.row 256 hR.last
          have lsb := lt_of_heap hR.row
          have lsz := hR.bel.size
          have hne0 := nil_eq
          have xk : ∀ W, (Instr.index 9 (.string ⟨#[47]⟩) (.int .i64 0)).run Tryz.prog W = .ok (.int .u8 47) W := fun W => run_idx Tryz.underlying9 ⟨#[47]⟩ 0 47 rfl 0 rfl .i64 W
          have hconv := (show RowB (wr.alloc (.cells #[.int .u8 47] 5)) wr.heap.size [47] from heap_alloc_new wr _).conv 0 1 1 (by decide)
          have hst1 : Tryz.prog.info? 9 = some si := HSI.out
          have hown := (hR.own.alloc (.cells #[.int .u8 47] 5)).alloc (.cells #[.string ⟨#[47]⟩] 9)
          have hrow := hR.row
          have HRR := Lib.hid hR
          have hne := ownBlock_neT hR.own hrow (by decide)
          clear hR
          go_wp2_with (at_builtin; refine wpList_append_own _ rfl _ _ 118 rfl w.heap.size 9 si (.string ⟨#[]⟩) 1 16 Tryz.underlying118 hst1 HSZ.out.1 HSZ.out.2.1 HSZ.out.2.2 rfl (by decide) _ _ _ rfl hown ⟨wr.heap.size + 1, 0, none⟩ 1 1 [.string ⟨#[47]⟩] rfl rfl (news1 wr _ _) (fun u hu => by rw [List.mem_singleton.1 hu]; rfl) (by unfold maxLen; simp) (by simp) (by simp; omega) ?_)
          intro v' w1 hown' hgrow _
          obtain ⟨g1, cp1, rfl⟩ := Joins.ownsRow_form hown' (by simp)
          have hW2 := heap_alloc_old ((wr.alloc (.cells #[.int .u8 47] 5))) (.cells #[.string ⟨#[47]⟩] 9) (r := w.heap.size + 1) (by simp; omega)
          have row1 := (hgrow.block (w.heap.size + 1) (by simp; omega) (fun h => hne h.symm)).trans (hW2.trans ((heap_alloc_old wr _ lsb).trans hrow))
          have b1 : Below w.heap.size w w1 := ((HRR.out.bel.alloc lsz _).alloc (by simp; omega) _).grown hgrow (by simp; omega) (fun j hj => (hown.lt j hj).1)
          have n1 := cell_of row1 47 (HRR.out.non 47 (by decide))
          have l1 := cell_of row1 256 HRR.out.last
          have f1 := frozen_row row1
          have HROW1 := Lib.hid row1
          have HB1 := Lib.hid b1
          have HOWN1 := Lib.hid hown'
          have HNE1 := Lib.hid (ownBlock_neT hown' row1 (by decide))
          have lw1 := lt_of_heap row1
          have hcv := Lib.run_convert_string_bytes (P := Tryz.prog) (w1.setCell ⟨w.heap.size + 1, 256, none⟩ (.slice (some ⟨g1, 0, none⟩) 1 cp1)) 9 81 5 ⟨#[]⟩ Tryz.underlying9 Tryz.underlying81 Tryz.underlying5
          rw [show (⟨#[]⟩ : ByteArray).size = 0 from rfl] at hcv
          have row3 := setC_heap row1 256 (.slice (some ⟨g1, 0, none⟩) 1 cp1)
          have row4 := (Lib.bytesWorld_at_old (w1.setCell ⟨w.heap.size + 1, 256, none⟩ (.slice (some ⟨g1, 0, none⟩) 1 cp1)) 5 ⟨#[]⟩ (w.heap.size + 1) (lt_of_heap row3)).trans row3
          have b4 := bytes_below (b1.setCell (p := ⟨w.heap.size + 1, 256, none⟩) (by simp) (.slice (some ⟨g1, 0, none⟩) 1 cp1)) 5 ⟨#[]⟩
          have own4 := bytes_own (own_heap hown' fun g hg => setC_other w1 (w.heap.size + 1) 256 (.slice (some ⟨g1, 0, none⟩) 1 cp1) (show g ≠ w.heap.size + 1 by rintro rfl; exact ownBlock_neT hown' row1 (by decide) hg)) 5 ⟨#[]⟩
          generalize Lib.bytesWorld (w1.setCell ⟨w.heap.size + 1, 256, none⟩ (.slice (some ⟨g1, 0, none⟩) 1 cp1)) 5 ⟨#[]⟩ = w4 at hcv row4 b4 own4
          have hnew : Tryz.prog.info? 9 = some si := HSI.out
          have n4 := cell_of row4 47 (v := .slice none 0 0) (by rw [Array.getElem?_setIfInBounds_ne (by decide)]; exact HRR.out.non 47 (by decide))
          have f4 := frozen_row row4
          have R4 := Lib.hid row4
          have B4 := Lib.hid b4
          have O4 := Lib.hid own4
          clear row3 row4 b4 own4 hnew
          clear hown hown' hgrow hW2 row1 b1 hne hrow
          go_wp2_with fail
          go_roundw
          case rel =>
            exact ⟨[] ++ [47], _, _, .inr (.inl ⟨rfl, rfl⟩), BldR.step (C := 47) HRR.out ⟨_, _, rfl⟩ B4.out R4.out O4.out⟩
          case measure => simp [intOf]
        · have q0 := below_cell hR.bel o0
          have q1 := below_cell hR.bel o1
          have hn := cell_of hR.row 120 (hR.non 120 (by decide))
          have hl := cell_of hR.row 256 hR.last
          have lsb := lt_of_heap hR.row
          have lsz := hR.bel.size
          have hne0 := nil_eq
          have xk : ∀ W, (Instr.index 9 (.string ⟨#[120]⟩) (.int .i64 0)).run Tryz.prog W = .ok (.int .u8 120) W := fun W => run_idx Tryz.underlying9 ⟨#[120]⟩ 0 120 rfl 0 rfl .i64 W
          have hconv := (show RowB (wr.alloc (.cells #[.int .u8 120] 5)) wr.heap.size [120] from heap_alloc_new wr _).conv 0 1 1 (by decide)
          have hst1 : Tryz.prog.info? 9 = some si := HSI.out
          have hown := (hR.own.alloc (.cells #[.int .u8 120] 5)).alloc (.cells #[.string ⟨#[120]⟩] 9)
          have hrow := hR.row
          have HRR := Lib.hid hR
          have hne := ownBlock_neT hR.own hrow (by decide)
          clear hR
          go_wp2_with (at_builtin; refine wpList_append_own _ rfl _ _ 118 rfl w.heap.size 9 si (.string ⟨#[]⟩) 1 16 Tryz.underlying118 hst1 HSZ.out.1 HSZ.out.2.1 HSZ.out.2.2 rfl (by decide) _ _ _ rfl hown ⟨wr.heap.size + 1, 0, none⟩ 1 1 [.string ⟨#[120]⟩] rfl rfl (news1 wr _ _) (fun u hu => by rw [List.mem_singleton.1 hu]; rfl) (by unfold maxLen; simp) (by simp) (by simp; omega) ?_)
          intro v' w1 hown' hgrow _
          obtain ⟨g1, cp1, rfl⟩ := Joins.ownsRow_form hown' (by simp)
          have hW2 := heap_alloc_old ((wr.alloc (.cells #[.int .u8 120] 5))) (.cells #[.string ⟨#[120]⟩] 9) (r := w.heap.size + 1) (by simp; omega)
          have row1 := (hgrow.block (w.heap.size + 1) (by simp; omega) (fun h => hne h.symm)).trans (hW2.trans ((heap_alloc_old wr _ lsb).trans hrow))
          have b1 : Below w.heap.size w w1 := ((HRR.out.bel.alloc lsz _).alloc (by simp; omega) _).grown hgrow (by simp; omega) (fun j hj => (hown.lt j hj).1)
          have n1 := cell_of row1 120 (HRR.out.non 120 (by decide))
          have l1 := cell_of row1 256 HRR.out.last
          have f1 := frozen_row row1
          have HROW1 := Lib.hid row1
          have HB1 := Lib.hid b1
          have HOWN1 := Lib.hid hown'
          have HNE1 := Lib.hid (ownBlock_neT hown' row1 (by decide))
          have lw1 := lt_of_heap row1
          have hcv := Lib.run_convert_string_bytes (P := Tryz.prog) (w1.setCell ⟨w.heap.size + 1, 256, none⟩ (.slice (some ⟨g1, 0, none⟩) 2 cp1)) 9 81 5 ⟨#[]⟩ Tryz.underlying9 Tryz.underlying81 Tryz.underlying5
          rw [show (⟨#[]⟩ : ByteArray).size = 0 from rfl] at hcv
          have row3 := setC_heap row1 256 (.slice (some ⟨g1, 0, none⟩) 2 cp1)
          have row4 := (Lib.bytesWorld_at_old (w1.setCell ⟨w.heap.size + 1, 256, none⟩ (.slice (some ⟨g1, 0, none⟩) 2 cp1)) 5 ⟨#[]⟩ (w.heap.size + 1) (lt_of_heap row3)).trans row3
          have b4 := bytes_below (b1.setCell (p := ⟨w.heap.size + 1, 256, none⟩) (by simp) (.slice (some ⟨g1, 0, none⟩) 2 cp1)) 5 ⟨#[]⟩
          have own4 := bytes_own (own_heap hown' fun g hg => setC_other w1 (w.heap.size + 1) 256 (.slice (some ⟨g1, 0, none⟩) 2 cp1) (show g ≠ w.heap.size + 1 by rintro rfl; exact ownBlock_neT hown' row1 (by decide) hg)) 5 ⟨#[]⟩
          generalize Lib.bytesWorld (w1.setCell ⟨w.heap.size + 1, 256, none⟩ (.slice (some ⟨g1, 0, none⟩) 2 cp1)) 5 ⟨#[]⟩ = w4 at hcv row4 b4 own4
          have hnew : Tryz.prog.info? 9 = some si := HSI.out
          have n4 := cell_of row4 120 (v := .slice none 0 0) (by rw [Array.getElem?_setIfInBounds_ne (by decide)]; exact HRR.out.non 120 (by decide))
          have f4 := frozen_row row4
          have R4 := Lib.hid row4
          have B4 := Lib.hid b4
          have O4 := Lib.hid own4
          clear row3 row4 b4 own4 hnew
          clear hown hown' hgrow hW2 row1 b1 hne hrow
          go_wp2_with fail
          go_roundw
          case rel =>
            exact ⟨[47] ++ [120], _, _, .inr (.inr ⟨rfl, rfl⟩), BldR.step (C := 120) HRR.out ⟨_, _, rfl⟩ B4.out R4.out O4.out⟩
          case measure => simp [intOf]
        · go_wp2_with fail
          go_ret
          obtain ⟨b, le, row, size, rep, non, last, own⟩ := hR
          refine ⟨w.heap.size + 1, rfl, b, fun c hc => ?_, fun c hc => ?_, ?_⟩
          · obtain ⟨a, cp, h⟩ := rep c (by
              unfold keepX at hc
              simp only [Bool.and_eq_false_iff, bne_eq_false_iff_eq] at hc
              rcases hc with rfl | rfl <;> decide)
            exact ⟨a, cp, cell_of row _ h⟩
          · refine cell_of row _ (non c fun hm => ?_)
            rcases List.mem_cons.1 hm with rfl | hm
            · revert hc; decide
            · obtain rfl := List.mem_singleton.1 hm
              revert hc; decide
          · obtain ⟨g, cp, rfl⟩ := Joins.ownsRow_form own (by decide)
            have hc := own.cells (g := g) rfl
            refine ⟨g, cp, cell_of row _ last, ?_, ?_⟩
            · exact hc 0 _ rfl
            · have := hc 1 _ rfl
              simpa [Addr.add] using this
end Go.Proofs.YtlahdjdbbfjadaaGreatDoor
