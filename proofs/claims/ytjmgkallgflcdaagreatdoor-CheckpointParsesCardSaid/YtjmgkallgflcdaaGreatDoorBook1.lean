/-
  cartularylaw01.Book over lists of texts: a text put behind a row of the call's own, and what stays as it was; the book's state.
-/
import Derived.Test.YtjmgkallgflcdaaGreatDoorTwin
import Derived.Maps.AppendAt
namespace Go.Proofs.YtjmgkallgflcdaaGreatDoor
open Go.RowKit

theorem run_append_one {W : World} {B : Nat} {v : Value} {n : Nat} {xs : List Value} (hown : W.ownsRow B 9 1 v n xs) (ad : Addr) (y : ByteArray) (hnew : W.cell? ad = some (.string y)) (h63 : n + 1 ≤ 4294967296) (hB : B ≤ W.heap.size) (ty : TypeId) :
    ∃ v' W', (Builtin.append_ #[25, 25] ty #[v, .slice (some ad) 1 1]).run Tryz.prog W = .ok v' W' ∧ W'.ownsRow B 9 1 v' (n + 1) (xs ++ [.string y]) ∧ W.grownBy W' v.ownBlock ∧
      (v'.ownBlock = v.ownBlock ∨ v'.ownBlock = some W.heap.size) ∧ (∀ g j, g < W.heap.size → (v.ownBlock = some g → j < n) → W'.cell? ⟨g, j, none⟩ = W.cell? ⟨g, j, none⟩) := by
  obtain ⟨i0, hi, hz⟩ := Option.map_eq_some_iff.1 infoStr
  simp only [Prod.mk.injEq] at hz
  obtain ⟨hz0, hz1, hz2⟩ := hz
  have hnews : ∀ j u, [Value.string y][j]? = some u → W.cell? (ad.add j) = some u := fun j u hj => by
    match j, hj with
    | 0, hj => simp at hj; subst hj; simpa [Addr.add] using hnew
  have h1 : ∀ u ∈ [Value.string y], u.oneCell' = true := by intro u hu; simp at hu; subst hu; rfl
  obtain ⟨v', W', hr, h2, h3, _, h5⟩ := run_append_own_at (P := Tryz.prog) W B 25 ty 9 i0 (.string ⟨#[]⟩) 1 16 Tryz.underlying25 hi hz0 hz1 hz2 rfl (by decide) v n xs hown ad 1 1 [.string y] rfl hnews h1 (by unfold maxLen; omega) (by omega) hB
  refine ⟨v', W', hr, h2, h3, h5, fun g j hg hj => ?_⟩
  by_cases hb : v.ownBlock = some g
  · have hjn := hj hb
    have hxl : xs.length = n := by have := hown.1; omega
    by_cases hv : v'.ownBlock = some g
    · have e1 := hown.cells (g := g) hb j xs[j] (List.getElem?_eq_getElem (by omega))
      have e2 := h2.cells (g := g) hv j xs[j] (by rw [List.getElem?_append_left (by omega), List.getElem?_eq_getElem (by omega)])
      have ha : (⟨g, 0, none⟩ : Addr).add j = ⟨g, j, none⟩ := by simp [Addr.add]; intro h; exact h.symm
      rw [ha] at e1 e2
      rw [e1, e2]
    · rcases hown.2 with ⟨rfl, rfl⟩ | ⟨g', cap, cur, rfl, hbg, hgg, hnc, hcm, hcs, htake⟩
      · omega
      · obtain rfl : g' = g := by simpa [Value.ownBlock] using hb
        have hroom : ¬ n + 1 ≤ cap := fun hroom => by
          have hr' := run_append_room (P := Tryz.prog) W 25 ty 9 i0 Tryz.underlying25 hi g' n cap cur hgg ad 1 1 [.string y] (by rw [hz1]; rfl) hnews h1 hroom (by rw [hz1, hcs]; simp; omega)
          rw [hr] at hr'
          injection hr' with q1 q2
          exact hv (by rw [q1]; rfl)
        have holds : ∀ j u, xs[j]? = some u → W.cell? ((⟨g', 0, none⟩ : Addr).add j) = some u := hown.cells (g := g') rfl
        have hr' := run_append_grow (P := Tryz.prog) W 25 ty 9 i0 (.string ⟨#[]⟩) Tryz.underlying25 hi hz0 ⟨g', 0, none⟩ n cap xs (by rw [hz1]; exact hown.1) holds ad 1 1 [.string y] (by rw [hz1]; rfl) hnews (by omega) (by omega) (growslice_fits (by omega) (by rw [hz2]; omega))
        have q2 := (Result.ok.inj (hr.symm.trans hr')).2
        rw [q2]
        exact World.cell?_of_block (heap_alloc_old W.drew _ hg)
  · exact World.cell?_of_block (h3.block g hg (fun e => hb e.symm))
end Go.Proofs.YtjmgkallgflcdaaGreatDoor
