/-
  What forge's closure walk tells of a stretch.
-/
import Derived.Test.YthcccgbodceeeaaDoorFWalk3
namespace Go.Proofs.YthcccgbodceeeaaDoor
open Go.RowKit

theorem pwalk_any (S : Nat → Addr) (w0 : World) (lb mb cb B : Nat) (ls fs : List ByteArray) (zp : List ((Nat × Nat) × List UInt8)) (kc kcut ka kb ks kw : Nat) (F : Nat → List UInt8) (hO : PartOld S w0 lb mb cb B ls fs zp) (hz : Looks zp) (hl4 : ls.length ≤ 400) (hls : ∀ s ∈ ls, s.size ≤ 65536) (hF : ∀ i, i < fs.length → ∃ s, fs[i]? = some s ∧ F (B + i) = bs s ∧ s.size ≤ 140737488355327) :
    ∀ (f b e : Nat) (w : World), WalkEnv w0 w cb kc kcut ka kb ks kw → b < e → e ≤ ls.length → e - b ≤ f + 1 → Knows zp B (B + fs.length) f b e →
    Calls Tryd.prog 35 (walkArgs b e kc kcut ka kb ks kw) w fun x w' => WalkPost w0 cb kc kcut ka kb ks kw w (walkF spL (lf ls) (lookP zp) F B (B + fs.length) f b e) x w'
  | 0, b, e, w, hE, hbe, he, hf, hk => by
    by_cases ho : e ≤ B ∨ B + fs.length ≤ b
    · rw [walkF, if_pos ho]
      exact pwalk_out S w0 lb mb cb B ls fs zp kc kcut ka kb ks kw b e _ w hO hE hz (by omega) (by omega) (knows_out hk ho)
    · rw [walkF, if_neg ho]
      obtain ⟨s, h1, h2, h3⟩ := hF (b - B) (by omega)
      rw [show B + (b - B) = b by omega] at h2
      obtain ⟨s0, hs0⟩ : ∃ s, ls[b]? = some s := ⟨_, List.getElem?_eq_getElem (by omega)⟩
      refine pwalk_leaf S w0 lb mb cb B ls fs zp kc kcut ka kb ks kw b e (b - B) s0 s w hO hE hz (by omega) he hl4 (hk.2 b e hbe ho) hbe (by omega) (by omega) h1 h3 hs0 (hls _ (List.mem_of_getElem? hs0)) _ ?_
      rw [h2, lf_at hs0]
  | f + 1, b, e, w, hE, hbe, he, hf, hk => by
    by_cases ho : e ≤ B ∨ B + fs.length ≤ b
    · rw [walkF, if_pos ho]
      exact pwalk_out S w0 lb mb cb B ls fs zp kc kcut ka kb ks kw b e _ w hO hE hz (by omega) (by omega) (knows_out hk ho)
    · by_cases h2 : e - b < 2
      · rw [walkF, if_neg ho, if_pos h2]
        obtain ⟨s, h1, h4, h3⟩ := hF (b - B) (by omega)
        rw [show B + (b - B) = b by omega] at h4
        obtain ⟨s0, hs0⟩ : ∃ s, ls[b]? = some s := ⟨_, List.getElem?_eq_getElem (by omega)⟩
        refine pwalk_leaf S w0 lb mb cb B ls fs zp kc kcut ka kb ks kw b e (b - B) s0 s w hO hE hz (by omega) he hl4 (hk.2 b e hbe ho) hbe h2 (by omega) h1 h3 hs0 (hls _ (List.mem_of_getElem? hs0)) _ ?_
        rw [h4, lf_at hs0]
      · rw [walkF, if_neg ho, if_neg h2]
        obtain ⟨k1, k2⟩ := spL_mid' (show 2 ≤ e - b by omega)
        obtain ⟨q1, q2⟩ := knows_two hk ho (by omega)
        have hcast : ((b + spL (e - b) : Nat) : Int) = (b : Int) + (spL (e - b) : Int) := by push_cast; rfl
        have HT : ∀ (x y : Nat) (hxy : x < y) (hy : y ≤ ls.length) (hfu : y - x ≤ f + 1) (W : World) (hW : Below w.heap.size w W), Calls Tryd.prog 23 #[.pointer (some ⟨lb, 0, none⟩), spanV x y] W fun z w' => z = .returned (.tuple #[.agg (Lib.byteCells (treeF spL (lf ls) f x y)).toArray, .nilIface]) ∧ Below W.heap.size W w' := fun x y hxy hy hfu W hW => by
          refine (tree_any S lb ls x y W ((hE.part hO).fw.below hW) ((hE.part hO).log.below hW) hl4 hls (by omega) (by omega)).mono ?_
          rintro z w' ⟨T, rfl, _, hT, hb⟩
          rw [if_pos hy, hT hxy hy f hfu]
          exact ⟨rfl, hb⟩
        refine pwalk_node S w0 lb mb cb B ls fs zp kc kcut ka kb ks kw b e (spL (e - b)) (treeF spL (lf ls) f b (b + spL (e - b))) (treeF spL (lf ls) f (b + spL (e - b)) e) (saysF spL (lookP zp) F B (B + fs.length) f b (b + spL (e - b))) (saysF spL (lookP zp) F B (B + fs.length) f (b + spL (e - b)) e) (walkF spL (lf ls) (lookP zp) F B (B + fs.length) f b (b + spL (e - b))) (walkF spL (lf ls) (lookP zp) F B (B + fs.length) f (b + spL (e - b)) e) _ w hO hE hz (by omega) (by omega) (hk.2 b e hbe ho) (by omega) rfl (treeF_len' _ _ _ _) (treeF_len' _ _ _ _) (saysF_len shaL_len _ _ (lookP_len hz) _ _ _ _ _ _) (saysF_len shaL_len _ _ (lookP_len hz) _ _ _ _ _ _) rfl (fun W hW => ?_) (fun W hW => ?_) (fun W hW => ?_) (fun W hW => ?_) (fun W hW => ?_) (fun W hW => ?_)
        · have := HT b (b + spL (e - b)) (by omega) (by omega) (by omega) W hW
          unfold spanV at this
          rwa [hcast] at this
        · have := HT (b + spL (e - b)) e (by omega) (by omega) (by omega) W hW
          unfold spanV at this
          rwa [hcast] at this
        · have := psays_any S lb mb cb B ls fs zp kc kcut ks F hz hF f b (b + spL (e - b)) W hW (by omega) (by omega) (by omega) q1
          rwa [hcast] at this
        · have := psays_any S lb mb cb B ls fs zp kc kcut ks F hz hF f (b + spL (e - b)) e W hW (by omega) (by omega) (by omega) q2
          rwa [hcast] at this
        · have := pwalk_any S w0 lb mb cb B ls fs zp kc kcut ka kb ks kw F hO hz hl4 hls hF f b (b + spL (e - b)) W hW (by omega) (by omega) (by omega) q1
          rwa [hcast] at this
        · have := pwalk_any S w0 lb mb cb B ls fs zp kc kcut ka kb ks kw F hO hz hl4 hls hF f (b + spL (e - b)) e W hW (by omega) (by omega) (by omega) q2
          rwa [hcast] at this
end Go.Proofs.YthcccgbodceeeaaDoor
