/-
  SHA-256, plain: words, the schedule, a block, the padding, the hash of a text.
-/
import Derived.Test.YthcccgbodceeeaaDoorProg
import Derived.WalkKit
import Derived.IntWalk
import Derived.Deep.QuietTactic
import Derived.BigQuiet
import Derived.Lib.Hide
namespace Go.Proofs.YthcccgbodceeeaaDoor
open Go.RowKit


def M32 : Nat := 4294967296
def rotN (x n : Nat) : Nat := (x / 2 ^ n) ||| (x * 2 ^ (32 - n) % 4294967296)
theorem rotN_lt {x n : Nat} (hx : x < 4294967296) : rotN x n < 4294967296 := by
  unfold rotN
  have h1 : x / 2 ^ n < 2 ^ 32 := Nat.lt_of_le_of_lt (Nat.div_le_self ..) hx
  have h2 : x * 2 ^ (32 - n) % 4294967296 < 2 ^ 32 := Nat.mod_lt _ (by decide)
  exact Nat.or_lt_two_pow h1 h2
def sg0 (x : Nat) : Nat := rotN x 7 ^^^ rotN x 18 ^^^ (x / 8)
def sg1 (x : Nat) : Nat := rotN x 17 ^^^ rotN x 19 ^^^ (x / 1024)
def bg0 (x : Nat) : Nat := rotN x 2 ^^^ rotN x 13 ^^^ rotN x 22
def bg1 (x : Nat) : Nat := rotN x 6 ^^^ rotN x 11 ^^^ rotN x 25
def chN (e f g : Nat) : Nat := (e &&& f) ^^^ ((4294967295 ^^^ e) &&& g)
def mjN (a b c : Nat) : Nat := (a &&& b) ^^^ (a &&& c) ^^^ (b &&& c)
/-- The next word of a schedule: of the words so far. -/
def nextW (l : List Nat) (t : Nat) : Nat := (l.getD (t - 16) 0 + sg0 (l.getD (t - 15) 0) + l.getD (t - 7) 0 + sg1 (l.getD (t - 2) 0)) % 4294967296
def word4 (a b c d : UInt8) : Nat := a.toNat * 16777216 + b.toNat * 65536 + c.toNat * 256 + d.toNat
def wordsOf : List UInt8 → List Nat
  | a :: b :: c :: d :: r => word4 a b c d :: wordsOf r
  | _ => []
def sched (b : List UInt8) : Nat → List Nat
  | 0 => wordsOf b
  | k + 1 => sched b k ++ [nextW (sched b k) (16 + k)]
structure St where
  (a b c d e f g h : Nat)
def St.rnd (s : St) (k w : Nat) : St :=
  let x := (s.h + bg1 s.e + chN s.e s.f s.g + k + w) % 4294967296
  let y := (bg0 s.a + mjN s.a s.b s.c) % 4294967296
  ⟨(x + y) % 4294967296, s.a, s.b, s.c, (s.d + x) % 4294967296, s.e, s.f, s.g⟩
def shaK : List Nat := [0x428a2f98, 0x71374491, 0xb5c0fbcf, 0xe9b5dba5, 0x3956c25b, 0x59f111f1, 0x923f82a4, 0xab1c5ed5,
  0xd807aa98, 0x12835b01, 0x243185be, 0x550c7dc3, 0x72be5d74, 0x80deb1fe, 0x9bdc06a7, 0xc19bf174,
  0xe49b69c1, 0xefbe4786, 0x0fc19dc6, 0x240ca1cc, 0x2de92c6f, 0x4a7484aa, 0x5cb0a9dc, 0x76f988da,
  0x983e5152, 0xa831c66d, 0xb00327c8, 0xbf597fc7, 0xc6e00bf3, 0xd5a79147, 0x06ca6351, 0x14292967,
  0x27b70a85, 0x2e1b2138, 0x4d2c6dfc, 0x53380d13, 0x650a7354, 0x766a0abb, 0x81c2c92e, 0x92722c85,
  0xa2bfe8a1, 0xa81a664b, 0xc24b8b70, 0xc76c51a3, 0xd192e819, 0xd6990624, 0xf40e3585, 0x106aa070,
  0x19a4c116, 0x1e376c08, 0x2748774c, 0x34b0bcb5, 0x391c0cb3, 0x4ed8aa4a, 0x5b9cca4f, 0x682e6ff3,
  0x748f82ee, 0x78a5636f, 0x84c87814, 0x8cc70208, 0x90befffa, 0xa4506ceb, 0xbef9a3f7, 0xc67178f2]
def St.run (W : List Nat) (s : St) : Nat → St
  | 0 => s
  | t + 1 => (s.run W t).rnd (shaK.getD t 0) (W.getD t 0)
def St.add (s v : St) : St := ⟨(s.a + v.a) % 4294967296, (s.b + v.b) % 4294967296, (s.c + v.c) % 4294967296, (s.d + v.d) % 4294967296, (s.e + v.e) % 4294967296, (s.f + v.f) % 4294967296, (s.g + v.g) % 4294967296, (s.h + v.h) % 4294967296⟩
/-- A block more. -/
def St.block (s : St) (b : List UInt8) : St := s.add (s.run (sched b 48) 64)
def St.start : St := ⟨0x6a09e667, 0xbb67ae85, 0x3c6ef372, 0xa54ff53a, 0x510e527f, 0x9b05688c, 0x1f83d9ab, 0x5be0cd19⟩
/-- So many blocks of a text. -/
def St.blocks (s : St) (m : List UInt8) : Nat → St
  | 0 => s
  | n + 1 => (s.blocks m n).block ((m.drop (64 * n)).take 64)
def zerosN (len : Nat) : Nat := (119 - len % 64) % 64
def lenBytes (n : Nat) : List UInt8 := [56, 48, 40, 32, 24, 16, 8, 0].map fun k => UInt8.ofNat (n * 8 % 18446744073709551616 / 2 ^ k % 256)
def tailOf (len : Nat) : List UInt8 := 128 :: (List.replicate (zerosN len) 0 ++ lenBytes len)
def padL (m : List UInt8) : List UInt8 := m ++ tailOf m.length
def bytes4 (n : Nat) : List UInt8 := [UInt8.ofNat (n / 16777216), UInt8.ofNat (n / 65536 % 256), UInt8.ofNat (n / 256 % 256), UInt8.ofNat (n % 256)]
def St.out (s : St) : List UInt8 := bytes4 s.a ++ bytes4 s.b ++ bytes4 s.c ++ bytes4 s.d ++ bytes4 s.e ++ bytes4 s.f ++ bytes4 s.g ++ bytes4 s.h
def shaL (m : List UInt8) : List UInt8 := (St.start.blocks (padL m) ((padL m).length / 64)).out
theorem shaL_len (m : List UInt8) : (shaL m).length = 32 := rfl
structure St.Ok (s : St) : Prop where
  a : s.a < 4294967296
  b : s.b < 4294967296
  c : s.c < 4294967296
  d : s.d < 4294967296
  e : s.e < 4294967296
  f : s.f < 4294967296
  g : s.g < 4294967296
  h : s.h < 4294967296
theorem St.Ok.rnd {s : St} (h : s.Ok) (k w : Nat) : (s.rnd k w).Ok := ⟨Nat.mod_lt _ (by decide), h.a, h.b, h.c, Nat.mod_lt _ (by decide), h.e, h.f, h.g⟩
theorem St.Ok.run {s : St} (h : s.Ok) (W : List Nat) : ∀ t, (s.run W t).Ok
  | 0 => h
  | t + 1 => (St.Ok.run h W t).rnd _ _
theorem St.Ok.add (s v : St) : (s.add v).Ok := ⟨Nat.mod_lt _ (by decide), Nat.mod_lt _ (by decide), Nat.mod_lt _ (by decide), Nat.mod_lt _ (by decide), Nat.mod_lt _ (by decide), Nat.mod_lt _ (by decide), Nat.mod_lt _ (by decide), Nat.mod_lt _ (by decide)⟩
theorem St.Ok.block (s : St) (b : List UInt8) : (s.block b).Ok := St.Ok.add _ _
theorem St.Ok.start : St.start.Ok := ⟨by decide, by decide, by decide, by decide, by decide, by decide, by decide, by decide⟩
theorem St.Ok.blocks {s : St} (h : s.Ok) (m : List UInt8) : ∀ n, (s.blocks m n).Ok
  | 0 => h
  | _ + 1 => St.Ok.block _ _
theorem wordsOf_len : ∀ (n : Nat) (b : List UInt8), b.length = 4 * n → (wordsOf b).length = n
  | 0, [], _ => rfl
  | n + 1, a :: b :: c :: d :: r, h => by
    rw [wordsOf, List.length_cons, wordsOf_len n r (by simp at h; omega)]
theorem wordsOf_get : ∀ (n : Nat) (b : List UInt8), b.length = 4 * n → ∀ t, t < n → ∃ x y z u, b[4 * t]? = some x ∧ b[4 * t + 1]? = some y ∧ b[4 * t + 2]? = some z ∧ b[4 * t + 3]? = some u ∧ (wordsOf b)[t]? = some (word4 x y z u)
  | n + 1, a :: b :: c :: d :: r, h, 0, _ => ⟨a, b, c, d, rfl, rfl, rfl, rfl, rfl⟩
  | n + 1, a :: b :: c :: d :: r, h, t + 1, ht => by
    obtain ⟨x, y, z, u, h0, h1, h2, h3, h4⟩ := wordsOf_get n r (by simp at h; omega) t (by omega)
    refine ⟨x, y, z, u, ?_, ?_, ?_, ?_, h4⟩
    · rw [show 4 * (t + 1) = 4 * t + 4 by omega]; exact h0
    · rw [show 4 * (t + 1) + 1 = 4 * t + 1 + 4 by omega]; exact h1
    · rw [show 4 * (t + 1) + 2 = 4 * t + 2 + 4 by omega]; exact h2
    · rw [show 4 * (t + 1) + 3 = 4 * t + 3 + 4 by omega]; exact h3
theorem word4_lt (a b c d : UInt8) : word4 a b c d < 4294967296 := by
  have := UInt8.toNat_lt a
  have := UInt8.toNat_lt b
  have := UInt8.toNat_lt c
  have := UInt8.toNat_lt d
  unfold word4
  omega
theorem sched_len (b : List UInt8) (h : b.length = 64) : ∀ k, (sched b k).length = 16 + k
  | 0 => wordsOf_len 16 b (by omega)
  | k + 1 => by rw [sched, List.length_append, sched_len b h k]; rfl
theorem sched_lt (b : List UInt8) (h : b.length = 64) : ∀ k, ∀ x ∈ sched b k, x < 4294967296
  | 0, x, hx => by
    obtain ⟨i, hi, rfl⟩ := List.mem_iff_getElem.1 hx
    have hl := sched_len b h 0
    obtain ⟨p, q, r, s, _, _, _, _, e⟩ := wordsOf_get 16 b (by omega) i (by omega)
    have : (sched b 0)[i] = word4 p q r s := by
      have e2 : (sched b 0)[i]? = some (word4 p q r s) := e
      rw [List.getElem?_eq_getElem hi] at e2
      exact Option.some.inj e2
    rw [this]
    exact word4_lt ..
  | k + 1, x, hx => by
    rw [sched, List.mem_append] at hx
    rcases hx with hx | hx
    · exact sched_lt b h k x hx
    · rw [List.mem_singleton.1 hx]
      exact Nat.mod_lt _ (by decide)
theorem padL_len (m : List UInt8) : (padL m).length % 64 = 0 := by
  unfold padL tailOf lenBytes zerosN
  simp only [List.length_append, List.length_cons, List.length_replicate, List.length_map, List.length_nil]
  omega

/-! ### The machine's words -/
theorem bv_nat {a : Nat} (h : a < 4294967296) : (BitVec.ofInt 32 (a : Int)).toNat = a := by
  rw [BitVec.toNat_ofInt]
  omega
theorem wrap_u32 (n : Int) : IntKind.wrap .u32 n = n % 4294967296 := rfl
theorem wrap_nat (a : Nat) : IntKind.wrap .u32 (a : Int) = ((a % 4294967296 : Nat) : Int) := by
  rw [wrap_u32]
  omega
theorem bits_xor {a b : Nat} (ha : a < 4294967296) (hb : b < 4294967296) : bits .xor .u32 (a : Int) (b : Int) = ((a ^^^ b : Nat) : Int) := by
  have h : a ^^^ b < 2 ^ 32 := Nat.xor_lt_two_pow ha hb
  show IntKind.wrap .u32 (((BitVec.ofInt 32 (a : Int) ^^^ BitVec.ofInt 32 (b : Int)).toNat : Nat) : Int) = _
  rw [BitVec.toNat_xor, bv_nat ha, bv_nat hb, wrap_nat, Nat.mod_eq_of_lt h]
theorem bits_and {a b : Nat} (ha : a < 4294967296) (hb : b < 4294967296) : bits .and .u32 (a : Int) (b : Int) = ((a &&& b : Nat) : Int) := by
  have h : a &&& b < 2 ^ 32 := Nat.and_lt_two_pow _ hb
  show IntKind.wrap .u32 (((BitVec.ofInt 32 (a : Int) &&& BitVec.ofInt 32 (b : Int)).toNat : Nat) : Int) = _
  rw [BitVec.toNat_and, bv_nat ha, bv_nat hb, wrap_nat, Nat.mod_eq_of_lt h]
theorem bits_or {a b : Nat} (ha : a < 4294967296) (hb : b < 4294967296) : bits .or .u32 (a : Int) (b : Int) = ((a ||| b : Nat) : Int) := by
  have h : a ||| b < 2 ^ 32 := Nat.or_lt_two_pow ha hb
  show IntKind.wrap .u32 (((BitVec.ofInt 32 (a : Int) ||| BitVec.ofInt 32 (b : Int)).toNat : Nat) : Int) = _
  rw [BitVec.toNat_or, bv_nat ha, bv_nat hb, wrap_nat, Nat.mod_eq_of_lt h]
theorem or_mul (k : Nat) (a b : Nat) (hb : b < 2 ^ k) : a * 2 ^ k ||| b = a * 2 ^ k + b := by
  rw [Nat.mul_comm, ← Nat.two_pow_add_eq_or_of_lt hb]
theorem word4_or (a b c d : UInt8) : ((a.toNat * 16777216 ||| b.toNat * 65536) ||| c.toNat * 256) ||| d.toNat = word4 a b c d := by
  have h1 := UInt8.toNat_lt a
  have h2 := UInt8.toNat_lt b
  have h3 := UInt8.toNat_lt c
  have h4 := UInt8.toNat_lt d
  have e1 := or_mul 24 a.toNat (b.toNat * 65536) (by omega)
  have e2 := or_mul 16 (a.toNat * 256 + b.toNat) (c.toNat * 256) (by omega)
  have e3 := or_mul 8 ((a.toNat * 256 + b.toNat) * 256 + c.toNat) d.toNat (by omega)
  unfold word4
  rw [show (16777216 : Nat) = 2 ^ 24 from rfl, e1, show a.toNat * 2 ^ 24 + b.toNat * 65536 = (a.toNat * 256 + b.toNat) * 2 ^ 16 by omega, e2,
    show (a.toNat * 256 + b.toNat) * 2 ^ 16 + c.toNat * 256 = ((a.toNat * 256 + b.toNat) * 256 + c.toNat) * 2 ^ 8 by omega, e3]

theorem turn_any (x n : Nat) (hx : x < 4294967296) (h1 : 1 ≤ n) (h2 : n ≤ 31) (w : World) :
    Calls Tryd.prog 52 #[.int .u32 (x : Int), .int .i64 (n : Int)] w fun e w' => e = .returned (.int .u32 ((rotN x n : Nat) : Int)) ∧ ∃ q, w' = w.drewN q := by
  have hd : ((x : Int) / 2 ^ n) = ((x / 2 ^ n : Nat) : Int) := by rw [Int.natCast_ediv]; rfl
  have hm : ((x : Int) * 2 ^ (32 - n) % 4294967296) = ((x * 2 ^ (32 - n) % 4294967296 : Nat) : Int) := by rw [Int.natCast_emod, Int.natCast_mul, Int.natCast_pow]; rfl
  have hb := bits_or (a := x / 2 ^ n) (b := x * 2 ^ (32 - n) % 4294967296) (Nat.lt_of_le_of_lt (Nat.div_le_self ..) hx) (Nat.mod_lt _ (by decide))
  rw [← hd, ← hm] at hb
  have HB := Lib.hid hb
  clear hd hm hb
  go_enter Tryd.func52, Tryd.ntmps52
  go_wp2_with fail
  go_quiet (fail)
  go_wp2_with fail
  go_ret
  refine ⟨?_, nq, rfl⟩
  show Ending.returned (Value.int IntKind.u32 (bits BinOp.or IntKind.u32 ((x : Int) / 2 ^ n) ((x : Int) * 2 ^ (32 - n) % 4294967296))) = _
  rw [HB.out]
  rfl
theorem turn_at (x n : Nat) (k : Int) (hk : k = (n : Int)) (hx : x < 4294967296) (h1 : 1 ≤ n) (h2 : n ≤ 31) (w : World) :
    Calls Tryd.prog 52 #[.int .u32 (x : Int), .int .i64 k] w fun e w' => e = .returned (.int .u32 ((rotN x n : Nat) : Int)) ∧ ∃ q, w' = w.drewN q := by
  subst hk
  exact turn_any x n hx h1 h2 w
theorem quiet_add {P : Program} {f : FuncId} {args : Array Value} {w : World} {a n : Nat} {v : Value}
    (h : Calls P f args (w.drewN (a + n)) fun e w' => e = .returned v ∧ ∃ m, w' = (w.drewN (a + n)).drewN m) :
    Calls P f args (w.drewN (a + n)) fun e w'' => e = .returned v ∧ ∃ m, w'' = w.drewN (a + m) :=
  h.mono fun _ _ ⟨he, m, hm⟩ => ⟨he, n + m, by rw [hm, World.drewN_drewN, Nat.add_assoc]⟩
theorem xor_lt32 {a b : Nat} (ha : a < 4294967296) (hb : b < 4294967296) : a ^^^ b < 4294967296 := Nat.xor_lt_two_pow (n := 32) ha hb
theorem and_lt32 {a b : Nat} (hb : b < 4294967296) : a &&& b < 4294967296 := Nat.and_lt_two_pow (n := 32) _ hb
theorem div_cast (x k : Nat) : ((x : Int) / (k : Int)) = ((x / k : Nat) : Int) := by rw [Int.natCast_ediv]
theorem sg0_bits {x : Nat} (h : x < 4294967296) : bits .xor .u32 (bits .xor .u32 ((rotN x 7 : Nat) : Int) ((rotN x 18 : Nat) : Int)) ((x : Int) / 8) = ((sg0 x : Nat) : Int) := by
  rw [bits_xor (rotN_lt h) (rotN_lt h), show ((x : Int) / 8) = ((x / 8 : Nat) : Int) from div_cast x 8, bits_xor (xor_lt32 (rotN_lt h) (rotN_lt h)) (by omega)]
  rfl
theorem sg1_bits {x : Nat} (h : x < 4294967296) : bits .xor .u32 (bits .xor .u32 ((rotN x 17 : Nat) : Int) ((rotN x 19 : Nat) : Int)) ((x : Int) / 1024) = ((sg1 x : Nat) : Int) := by
  rw [bits_xor (rotN_lt h) (rotN_lt h), show ((x : Int) / 1024) = ((x / 1024 : Nat) : Int) from div_cast x 1024, bits_xor (xor_lt32 (rotN_lt h) (rotN_lt h)) (by omega)]
  rfl
theorem bg0_bits {x : Nat} (h : x < 4294967296) : bits .xor .u32 (bits .xor .u32 ((rotN x 2 : Nat) : Int) ((rotN x 13 : Nat) : Int)) ((rotN x 22 : Nat) : Int) = ((bg0 x : Nat) : Int) := by
  rw [bits_xor (rotN_lt h) (rotN_lt h), bits_xor (xor_lt32 (rotN_lt h) (rotN_lt h)) (rotN_lt h)]
  rfl
theorem bg1_bits {x : Nat} (h : x < 4294967296) : bits .xor .u32 (bits .xor .u32 ((rotN x 6 : Nat) : Int) ((rotN x 11 : Nat) : Int)) ((rotN x 25 : Nat) : Int) = ((bg1 x : Nat) : Int) := by
  rw [bits_xor (rotN_lt h) (rotN_lt h), bits_xor (xor_lt32 (rotN_lt h) (rotN_lt h)) (rotN_lt h)]
  rfl
theorem ch_bits {e f g : Nat} (he : e < 4294967296) (hf : f < 4294967296) (hg : g < 4294967296) : bits .xor .u32 (bits .and .u32 (e : Int) (f : Int)) (bits .and .u32 (bits .xor .u32 4294967295 (e : Int)) (g : Int)) = ((chN e f g : Nat) : Int) := by
  rw [bits_and he hf, show (4294967295 : Int) = ((4294967295 : Nat) : Int) from rfl, bits_xor (by decide) he, bits_and (xor_lt32 (by decide) he) hg, bits_xor (and_lt32 hf) (and_lt32 hg)]
  rfl
theorem mj_bits {a b c : Nat} (ha : a < 4294967296) (hb : b < 4294967296) (hc : c < 4294967296) : bits .xor .u32 (bits .xor .u32 (bits .and .u32 (a : Int) (b : Int)) (bits .and .u32 (a : Int) (c : Int))) (bits .and .u32 (b : Int) (c : Int)) = ((mjN a b c : Nat) : Int) := by
  rw [bits_and ha hb, bits_and ha hc, bits_and hb hc, bits_xor (and_lt32 hb) (and_lt32 hc), bits_xor (xor_lt32 (and_lt32 hb) (and_lt32 hc)) (and_lt32 hc)]
  rfl
theorem sg0_lt {x : Nat} (h : x < 4294967296) : sg0 x < 4294967296 := xor_lt32 (xor_lt32 (rotN_lt h) (rotN_lt h)) (by omega)
theorem sg1_lt {x : Nat} (h : x < 4294967296) : sg1 x < 4294967296 := xor_lt32 (xor_lt32 (rotN_lt h) (rotN_lt h)) (by omega)
end Go.Proofs.YthcccgbodceeeaaDoor
