/-
  cartularylaw11.TileBack: Parse of Path is the tile, Path of what Parse answers the name, Decode of Encode the hashes, Encode of Decode the bytes; the chapter's examples hold: the law's function returns true, for every argument whose bulk is small (the second form), and never panics; it writes to no memory that was there.
-/
import Derived.Test.YtopilalefilkjaaGreatDoorHashD
import Derived.Test.YtopilalefilkjaaGreatDoorHashOpen
import Derived.Test.YtopilalefilkjaaGreatDoorTileLives
import Derived.Deep.CutRange
import Derived.Deep.DeepCutAuto
namespace Go.Proofs.YtopilalefilkjaaGreatDoor
open Go.RowKit

theorem thr_len : ∀ (n : Nat) (p : List UInt8), (thr n p).length ≤ p.length + 2 * n
  | 0, p => Nat.le_refl _
  | n + 1, p => by
    have := thr_len n (p.drop 3)
    simp only [thr, List.length_cons, List.length_append, List.length_take, List.length_drop] at this ⊢
    omega
theorem name_len (L I : Nat) (W : Int) (h : MayT L I W) : (nameT L I W.toNat).length ≤ 200 := by
  have h1 := nDigits_20 L (by have := h.1; omega)
  have h2 := nDigits_20 I (by have := h.2.2.2.1; omega)
  have h3 := nDigits_20 W.toNat (by have := h.2.2.1; omega)
  have h4 := thr_len ((padZ (Lib.decDigits I)).length / 3 - 1) (padZ (Lib.decDigits I))
  have h5 : (padZ (Lib.decDigits I)).length ≤ (Lib.decDigits I).length + 2 := by
    unfold padZ
    rw [List.length_append, List.length_replicate]
    omega
  have h6 : (partL W.toNat).length ≤ 23 := by
    unfold partL
    split
    · rw [List.length_append, Lib.decDigits_length]
      simp
      omega
    · simp
  unfold nameT threesL
  simp only [List.length_append, List.length_cons, List.length_nil, Lib.decDigits_length] at h4 h5 ⊢
  omega
theorem path_form (S : Nat → Addr) (L I : Nat) (W : Int) : ∃ (p : ByteArray) (ev : Value), pathV S L I W = .tuple #[.string p, ev] ∧
    ((MayT L I W ∧ ev = .nilIface ∧ p = ⟨(nameT L I W.toNat).toArray⟩) ∨ (¬ MayT L I W ∧ ev = errV S 2)) := by
  unfold pathV
  by_cases h : MayT L I W
  · rw [if_pos h]
    exact ⟨_, _, rfl, .inl ⟨h, rfl, rfl⟩⟩
  · rw [if_neg h]
    exact ⟨_, _, rfl, .inr ⟨h, rfl⟩⟩
theorem parse_form (S : Nat → Addr) (l : List UInt8) : ∃ (x y z : Int) (ev : Value), parseV S l = .tuple #[.agg #[.int .u8 x, .int .u64 y, .int .i64 z], ev] ∧
    ((∃ L I W : Nat, x = L ∧ y = I ∧ z = W ∧ ev = .nilIface ∧ MayT L I W ∧ nameT L I W = l ∧ parseT l = some (L, I, W)) ∨ (parseT l = none ∧ ev = errV S 3)) := by
  unfold parseV
  cases h : parseT l with
  | none => exact ⟨0, 0, 0, _, rfl, .inr ⟨rfl, rfl⟩⟩
  | some t =>
    obtain ⟨L, I, W⟩ := t
    refine ⟨L, I, W, _, rfl, .inl ⟨L, I, W, rfl, rfl, rfl, rfl, ?_⟩⟩
    have h' := h
    unfold parseT at h'
    split at h'
    · rename_i hc
      simp only [Option.some.injEq, Prod.mk.injEq] at h'
      obtain ⟨e1, e2, e3⟩ := h'
      rw [← e1, ← e2, ← e3]
      exact ⟨hc.2.1, hc.2.2, by rw [e1, e2, e3]⟩
    · cases h'
theorem enc_form (S : Nat → Addr) (n : Nat) (l : List UInt8) : ∃ (c : ByteArray) (ev : Value), encV S n l = .tuple #[.string c, ev] ∧
    (((1 ≤ n ∧ n ≤ 256) ∧ ev = .nilIface ∧ c = ⟨l.toArray⟩) ∨ (¬ (1 ≤ n ∧ n ≤ 256) ∧ ev = errV S 2)) := by
  unfold encV
  by_cases h : 1 ≤ n ∧ n ≤ 256
  · rw [if_pos h]
    exact ⟨_, _, rfl, .inl ⟨h, rfl, rfl⟩⟩
  · rw [if_neg h]
    exact ⟨_, _, rfl, .inr ⟨h, rfl⟩⟩
theorem parse_back (S : Nat → Addr) (L I : Nat) (W : Int) (h : MayT L I W) : parseV S (nameT L I W.toNat) = .tuple #[.agg #[.int .u8 (L : Int), .int .u64 (I : Int), .int .i64 W], .nilIface] := by
  unfold parseV
  rw [parse_name L I W h]
  have e : ((W.toNat : Nat) : Int) = W := by have := h.2.1; omega
  simp only [tileV, e]
theorem ret_boolB {a b : Bool} (h : a = b) : Ending.returned (.bool a) = Ending.returned (.bool b) := by rw [h]
theorem beyond_two (w : World) (g a b : Nat) (h0 : w.cell? ⟨g, 0, none⟩ = some (.int .i64 (a : Int))) (h1 : w.cell? ⟨g, 1, none⟩ = some (.int .i64 (b : Int))) (ha : a ≤ 281474976710656) (hb : b ≤ 281474976710656) :
    Calls Tryz.prog 17 #[.slice (some ⟨g, 0, none⟩) 2 2] w fun e w' => e = .returned (.bool (decide (1048576 < a + b))) ∧ Below w.heap.size w w' := by
  go_enter Tryz.func17, Tryz.ntmps17
  go_wp2_with fail
  by_cases h2 : 1048576 < a
  · have hi : (1048576 : Int) < (a : Int) := by omega
    refine wp_loop_rounds 1 ?_
    rw [rounds_succ]
    go_wp2_with fail
    go_ret
    exact ⟨ret_boolB (by rw [decide_eq_true (by omega)]), below_drewN (Below.refl _ _) 0⟩
  · have hi : ¬ (1048576 : Int) < (a : Int) := by omega
    by_cases h3 : 1048576 < a + b
    · have hi2 : (1048576 : Int) < (a : Int) + (b : Int) := by omega
      refine wp_loop_rounds 2 ?_
      rw [rounds_succ]
      go_wp2_with fail
      rw [rounds_succ]
      go_wp2_with fail
      go_ret
      exact ⟨ret_boolB (by rw [decide_eq_true h3]), below_drewN (Below.refl _ _) 0⟩
    · have hi2 : ¬ (1048576 : Int) < (a : Int) + (b : Int) := by omega
      refine wp_loop_rounds 3 ?_
      rw [rounds_succ]
      go_wp2_with fail
      rw [rounds_succ]
      go_wp2_with fail
      rw [rounds_succ]
      go_wp2_with fail
      go_ret
      exact ⟨ret_boolB (by rw [decide_eq_false h3]), below_drewN (Below.refl _ _) 0⟩

set_option maxHeartbeats 4000000 in
set_option maxRecDepth 100000 in
theorem tileBack_run : ∀ (S : Nat → Addr) (tl ti tw : Int) (s : ByteArray) (hv : Value) (n : Nat) (l : List UInt8) (b : ByteArray) (wd : Int) (w : World), 0 ≤ tl ∧ tl ≤ 255 ∧ 0 ≤ ti ∧ ti ≤ 18446744073709551615 ∧ -9223372036854775808 ≤ tw ∧ tw ≤ 9223372036854775807 → s.size ≤ 140737488351232 → HashIn w hv n l → n ≤ 140737488351232 → b.size ≤ 140737488351232 → -9223372036854775808 ≤ wd ∧ wd ≤ 9223372036854775807 → Base S w → Tab w → s.size + b.size ≤ 1048576 →
    Calls Tryz.prog 4 #[.agg #[.int .u8 tl, .int .u64 ti, .int .i64 tw], .string s, hv, .string b, .int .i64 wd] w fun e w' => e = .returned (.bool true) ∧ Below w.heap.size w w' := by
  intro S tl ti tw s hv n l b wd w hc _ hH hn hb hwd hB hT hsm
  obtain ⟨h1, h2, h3, h4, h5, h6⟩ := hc
  obtain ⟨L, rfl⟩ := Int.eq_ofNat_of_zero_le h1
  obtain ⟨I, rfl⟩ := Int.eq_ofNat_of_zero_le h3
  have HH := Lib.hid hH
  obtain ⟨hlen, ao, cap, rfl, _⟩ := hH
  have HBS := Lib.hid hB
  have HTB := Lib.hid hT
  have HPA := Lib.hid fun W hB hT => path_any S L I tw (by omega) (by omega) W hB hT
  obtain ⟨p, ev, hpv, hpf⟩ := path_form S L I tw
  simp only [hpv, tileV] at HPA
  have HPR := Lib.hid fun (t : ByteArray) W (ht : t.size ≤ 4294967000) hB hT => parse_any S t W ht hB hT
  have HPP := Lib.hid fun (L I : Nat) (W : Int) X (hL : L ≤ 255) (hI : I ≤ 18446744073709551615) hB hT => path_any S L I W hL hI X hB hT
  have HPF := Lib.hid hpf
  clear hB hT hpv hpf
  go_enter Tryz.func4, Tryz.ntmps4
  go_wp2_with fail
  have bx := below_two w (.cells #[.int .u8 (L : Int), .int .u64 (I : Int), .int .i64 tw] 24) (.cells #[.int .i64 (n : Int), .int .i64 (b.size : Int)] 3)
  refine (beyond_two _ _ n b.size (cell_of (heap_2b w _ _) 0 rfl) (cell_of (heap_2b w _ _) 1 rfl) (by omega) (by omega)).mono ?_
  rintro e w1 ⟨rfl, b1⟩
  have R0 := below_heap b1 (heap_2a w (.cells #[.int .u8 (L : Int), .int .u64 (I : Int), .int .i64 tw] 24) (.cells #[.int .i64 (n : Int), .int .i64 (b.size : Int)] 3))
  have B1 := Lib.hid (below_trans bx b1)
  clear b1 bx
  by_cases hbig : 1048576 < n + b.size
  · rw [decide_eq_true hbig]
    go_wp2_with fail
    go_ret
    exact ⟨rfl, B1.out⟩
  rw [decide_eq_false hbig]
  obtain ⟨q0, q1, q2⟩ := cells3 R0
  have l0 := lt_of_heap R0
  go_wp2_with fail
  refine (HPA.out _ (HBS.out.below B1.out) (tab_below HTB.out B1.out)).mono ?_
  rintro e w2 ⟨rfl, b2⟩
  have R2 := Lib.hid (below_heap b2 R0)
  have B2 := Lib.hid (below_trans B1.out b2)
  clear b2 q0 q1 q2 l0 R0 B1 HPA
  dsimp only
  go_upto_region 4 with fail
  go_cut [39] from 38 to 40 (fun s39 wx => s39 = .bool (decide (MayT L I tw)) ∧ wx = w2)
  case first =>
    rcases HPF.out with ⟨hm, rfl, hpE⟩ | ⟨hm, rfl⟩
    · clear hpE
      go_wp2_with fail
      go_meet
      exact ⟨by rw [decide_eq_true hm], rfl⟩
    · simp only [errV]
      go_wp2_with fail
      go_meet
      exact ⟨by rw [decide_eq_false hm], rfl⟩
  case rest =>
  obtain ⟨rfl, rfl⟩ := hcut
  rename World => w2
  go_upto_if 39 with fail
  go_cut [] from 11 (fun wx => Below w.heap.size w wx)
  case first =>
    rcases HPF.out with ⟨hm, rfl, rfl⟩ | ⟨hm, rfl⟩
    · rw [decide_eq_true hm]
      have HPN := Lib.hid fun W hB hT => HPR.out ⟨(nameT L I tw.toNat).toArray⟩ W (by
        have := name_len L I tw hm
        show (nameT L I tw.toNat).toArray.size ≤ _
        rw [List.size_toArray]
        omega) hB hT
      simp only [parse_back S L I tw hm] at HPN
      clear HPF
      go_wp2_with fail
      refine (HPN.out _ (HBS.out.below B2.out) (tab_below HTB.out B2.out)).mono ?_
      rintro e w3 ⟨rfl, b3⟩
      have R3 := below_heap b3 R2.out
      have B3 := Lib.hid (below_trans B2.out b3)
      obtain ⟨q0, q1, q2⟩ := cells3 R3
      have l0 := lt_of_heap R3
      clear b3 R3 HPN
      dsimp only
      go_wp2_with fail
      go_meet
      exact B3.out.alloc B3.out.size _
    · rw [decide_eq_false hm]
      go_wp2_with fail
      go_meet
      exact B2.out
  case rest =>
  clear HPF R2 B2
  have B3 := Lib.hid hcut
  clear hcut
  rename World => w3
  obtain ⟨x, y, z, ev2, hpr, hpc⟩ := parse_form S s.data.toList
  have HPS := Lib.hid fun W hB hT => HPR.out s W (by omega) hB hT
  simp only [hpr] at HPS
  have HPC := Lib.hid hpc
  clear hpr hpc HPR
  go_wp2_with fail
  refine (HPS.out _ (HBS.out.below B3.out) (tab_below HTB.out B3.out)).mono ?_
  rintro e w4 ⟨rfl, b4⟩
  have B4 := Lib.hid (below_trans B3.out b4)
  clear b4 HPS
  dsimp only
  go_upto_region 9 with fail
  go_cut [58] from 57 to 59 (fun s58 wx => s58 = .bool (parseT s.data.toList).isSome ∧ wx = w4.alloc (.cells #[.int .u8 x, .int .u64 y, .int .i64 z] 24))
  case first =>
    rcases HPC.out with ⟨L', I', W', ex, ey, ez, rfl, _, _, hp⟩ | ⟨hp, rfl⟩
    · clear ex ey ez
      go_wp2_with fail
      go_meet
      exact ⟨by rw [hp]; rfl, rfl⟩
    · simp only [errV]
      go_wp2_with fail
      go_meet
      exact ⟨by rw [hp]; rfl, rfl⟩
  case rest =>
  obtain ⟨rfl, rfl⟩ := hcut
  go_upto_if 58 with fail
  go_cut [] from 17 (fun wx => Below w.heap.size w wx)
  case first =>
    rcases HPC.out with ⟨L', I', W', rfl, rfl, rfl, e1, hm, hnm, hp⟩ | ⟨hp, e1⟩
    · rw [hp]
      have hI' : I' ≤ 18446744073709551615 := by have := hm.2.2.2.1; omega
      have HPN := Lib.hid fun W hB hT => HPP.out L' I' (W' : Int) W (by have := hm.1; omega) hI' hB hT
      have hpv : pathV S L' I' (W' : Int) = .tuple #[.string s, .nilIface] := by
        unfold pathV
        rw [if_pos hm, show ((W' : Nat) : Int).toNat = W' by omega, hnm]
      simp only [hpv, tileV] at HPN
      clear HPC HPP hm hnm hp
      have R4 := heap_one w4 (.cells #[.int .u8 (L' : Int), .int .u64 (I' : Int), .int .i64 (W' : Int)] 24)
      have B5 := Lib.hid (B4.out.alloc B4.out.size (.cells #[.int .u8 (L' : Int), .int .u64 (I' : Int), .int .i64 (W' : Int)] 24))
      simp only [Option.isSome]
      go_wp2_with fail
      refine (HPN.out _ (HBS.out.below B5.out) (tab_below HTB.out B5.out)).mono ?_
      rintro e w5 ⟨rfl, b5⟩
      have B6 := Lib.hid (below_trans B5.out b5)
      clear b5 HPN
      dsimp only
      go_wp2_with fail
      go_meet
      exact B6.out
    · rw [hp]
      simp only [Option.isSome]
      go_wp2_with fail
      go_meet
      exact B4.out.alloc B4.out.size _
  case rest =>
  clear HPC HPP B4 B3
  have B5 := Lib.hid hcut
  clear hcut
  rename World => w5
  obtain ⟨c, ev3, hen, hef⟩ := enc_form S n l
  have HEN := Lib.hid (encode_any S (.slice ao n cap) n l w5 (HBS.out.below B5.out) (HH.out.below B5.out))
  simp only [hen] at HEN
  have HEF := Lib.hid hef
  clear hen hef
  go_wp2_with fail
  refine HEN.out.mono ?_
  rintro e w6 ⟨rfl, b6⟩
  have B6 := Lib.hid (below_trans B5.out b6)
  clear b6 HEN
  dsimp only
  go_upto_region 14 with fail
  go_cut [77] from 76 to 78 (fun s77 wx => s77 = .bool (decide (1 ≤ n ∧ n ≤ 256)) ∧ wx = w6)
  case first =>
    rcases HEF.out with ⟨hok, rfl, hce⟩ | ⟨hok, rfl⟩
    · clear hce
      go_wp2_with fail
      go_meet
      exact ⟨by rw [decide_eq_true hok], rfl⟩
    · simp only [errV]
      go_wp2_with fail
      go_meet
      exact ⟨by rw [decide_eq_false hok], rfl⟩
  case rest =>
  obtain ⟨rfl, rfl⟩ := hcut
  rename World => w6
  go_upto_if 77 with fail
  go_cut [] from 21 (fun wx => Below w.heap.size w wx)
  case first =>
    rcases HEF.out with ⟨hok, rfl, hce⟩ | ⟨hok, rfl⟩
    · rw [decide_eq_true hok]
      have hsz : c.size = 32 * n := by
        rw [hce]
        show l.toArray.size = 32 * n
        rw [List.size_toArray]
        exact hlen
      have hl2 : c.data.toList = l := by rw [hce]
      have HDE := Lib.hid fun W => decode_any c n W hok.1 hok.2 hsz
      have hq : (c.size : Int) = 32 * (n : Int) := by omega
      clear hsz hce HEF
      go_wp2_with fail
      refine (HDE.out _).mono ?_
      rintro e w7 ⟨vl, rfl, hown, b7⟩
      rw [hl2] at hown
      have hH2 := owns_hash hlen hown
      have B7 := Lib.hid (below_trans B6.out b7)
      have HSA := Lib.hid (sameHashes_any vl (.slice ao n cap) n l w7 (by omega) hH2 (HH.out.below B7.out))
      obtain ⟨_, ao2, cap2, rfl, _⟩ := hH2
      clear hown b7 HDE hl2
      dsimp only
      go_wp2_with fail
      refine HSA.out.mono ?_
      rintro e w8 ⟨rfl, b8⟩
      have B8 := Lib.hid (below_trans B7.out b8)
      clear b8 HSA
      dsimp only
      go_wp2_with fail
      go_meet
      exact B8.out
    · rw [decide_eq_false hok]
      go_wp2_with fail
      go_meet
      exact B6.out
  case rest =>
  clear HEF HH B6 B5
  have B9 := Lib.hid hcut
  clear hcut
  rename World => w9
  by_cases hwk : 1 ≤ wd ∧ wd ≤ 256
  · by_cases hsz : (b.size : Int) = 32 * wd
    · obtain ⟨m, rfl⟩ := Int.eq_ofNat_of_zero_le (show 0 ≤ wd by omega)
      have hm1 : b.size = 32 * m := by omega
      have HDE := Lib.hid fun W => decode_any b m W (by omega) (by omega) hm1
      have hml : b.data.toList.length = 32 * m := by rw [size_listT]; exact hm1
      have hev : encV S m b.data.toList = .tuple #[.string b, .nilIface] := by
        unfold encV
        rw [if_pos (by omega)]
      clear hm1 hsz
      go_wp2_with fail
      refine (HDE.out _).mono ?_
      rintro e wa ⟨vl, rfl, hown, ba⟩
      have hH2 := owns_hash hml hown
      have Ba := Lib.hid (below_trans B9.out ba)
      have HEN := Lib.hid (encode_any S vl m b.data.toList wa (HBS.out.below Ba.out) hH2)
      rw [hev] at HEN
      obtain ⟨_, ao2, cap2, rfl, _⟩ := hH2
      clear hown ba HDE hev hml
      dsimp only
      go_wp2_with fail
      refine HEN.out.mono ?_
      rintro e wb ⟨rfl, bb⟩
      have Bb := Lib.hid (below_trans Ba.out bb)
      have HL := Lib.hid (livesT_any S _ (HBS.out.below Bb.out) (tab_below HTB.out Bb.out))
      clear bb HEN
      dsimp only
      go_wp2_with fail
      refine HL.out.mono ?_
      rintro e wc ⟨rfl, bc⟩
      have Bc := Lib.hid (below_trans Bb.out bc)
      clear bc
      dsimp only
      go_wp2_with fail
      go_ret
      exact ⟨rfl, Bc.out⟩
    · have HDE := Lib.hid (decode_size S b wd w9 (HBS.out.below B9.out) hwk.1 hwk.2 hsz)
      simp only [errV] at HDE
      clear hsz
      go_wp2_with fail
      refine HDE.out.mono ?_
      rintro e wb ⟨rfl, bb⟩
      have Bb := Lib.hid (below_trans B9.out bb)
      have HL := Lib.hid (livesT_any S _ (HBS.out.below Bb.out) (tab_below HTB.out Bb.out))
      clear bb HDE
      dsimp only
      go_wp2_with fail
      refine HL.out.mono ?_
      rintro e wc ⟨rfl, bc⟩
      have Bc := Lib.hid (below_trans Bb.out bc)
      clear bc
      dsimp only
      go_wp2_with fail
      go_ret
      exact ⟨rfl, Bc.out⟩
  · have HDE := Lib.hid (decode_width S b wd w9 (HBS.out.below B9.out) (by omega))
    simp only [errV] at HDE
    clear hwk
    go_wp2_with fail
    refine HDE.out.mono ?_
    rintro e wb ⟨rfl, bb⟩
    have Bb := Lib.hid (below_trans B9.out bb)
    have HL := Lib.hid (livesT_any S _ (HBS.out.below Bb.out) (tab_below HTB.out Bb.out))
    clear bb HDE
    dsimp only
    go_wp2_with fail
    refine HL.out.mono ?_
    rintro e wc ⟨rfl, bc⟩
    have Bc := Lib.hid (below_trans Bb.out bc)
    clear bc
    dsimp only
    go_wp2_with fail
    go_ret
    exact ⟨rfl, Bc.out⟩
end Go.Proofs.YtopilalefilkjaaGreatDoor
