/-
  SHA-256, plain: words, the schedule, a block, the padding, the hash of a text. Chains of hashes, keys that sign once, trees of keys: in plain Lean.
-/
import Derived.Test.YticlgcfodlcpcaaGreatDoorProg
import Derived.WalkKit
import Derived.IntWalk
import Derived.Deep.QuietTactic
import Derived.BigQuiet
import Derived.Lib.Hide
namespace Go.Proofs.YticlgcfodlcpcaaGreatDoor
open Go.RowKit


def M32 : Nat := 4294967296
def rotN (x n : Nat) : Nat := (x / 2 ^ n) ||| (x * 2 ^ (32 - n) % 4294967296)
theorem rotN_lt {x n : Nat} (hx : x < 4294967296) : rotN x n < 4294967296 := by
  unfold rotN
  have h1 : x / 2 ^ n < 2 ^ 32 := Nat.lt_of_le_of_lt (Nat.div_le_self ..) hx
  have h2 : x * 2 ^ (32 - n) % 4294967296 < 2 ^ 32 := Nat.mod_lt _ (by decide)
  exact Nat.or_lt_two_pow h1 h2
def sg0 (x : Nat) : Nat := rotN x 7 ^^^ rotN x 18 ^^^ (x / 8)
def sg1 (x : Nat) : Nat := rotN x 17 ^^^ rotN x 19 ^^^ (x / 1024)
def bg0 (x : Nat) : Nat := rotN x 2 ^^^ rotN x 13 ^^^ rotN x 22
def bg1 (x : Nat) : Nat := rotN x 6 ^^^ rotN x 11 ^^^ rotN x 25
def chN (e f g : Nat) : Nat := (e &&& f) ^^^ ((4294967295 ^^^ e) &&& g)
def mjN (a b c : Nat) : Nat := (a &&& b) ^^^ (a &&& c) ^^^ (b &&& c)
/-- The next word of a schedule: of the words so far. -/
def nextW (l : List Nat) (t : Nat) : Nat := (l.getD (t - 16) 0 + sg0 (l.getD (t - 15) 0) + l.getD (t - 7) 0 + sg1 (l.getD (t - 2) 0)) % 4294967296
def word4 (a b c d : UInt8) : Nat := a.toNat * 16777216 + b.toNat * 65536 + c.toNat * 256 + d.toNat
def wordsOf : List UInt8 → List Nat
  | a :: b :: c :: d :: r => word4 a b c d :: wordsOf r
  | _ => []
def sched (b : List UInt8) : Nat → List Nat
  | 0 => wordsOf b
  | k + 1 => sched b k ++ [nextW (sched b k) (16 + k)]
structure St where
  (a b c d e f g h : Nat)
def St.rnd (s : St) (k w : Nat) : St :=
  let x := (s.h + bg1 s.e + chN s.e s.f s.g + k + w) % 4294967296
  let y := (bg0 s.a + mjN s.a s.b s.c) % 4294967296
  ⟨(x + y) % 4294967296, s.a, s.b, s.c, (s.d + x) % 4294967296, s.e, s.f, s.g⟩
def shaK : List Nat := [0x428a2f98, 0x71374491, 0xb5c0fbcf, 0xe9b5dba5, 0x3956c25b, 0x59f111f1, 0x923f82a4, 0xab1c5ed5,
  0xd807aa98, 0x12835b01, 0x243185be, 0x550c7dc3, 0x72be5d74, 0x80deb1fe, 0x9bdc06a7, 0xc19bf174,
  0xe49b69c1, 0xefbe4786, 0x0fc19dc6, 0x240ca1cc, 0x2de92c6f, 0x4a7484aa, 0x5cb0a9dc, 0x76f988da,
  0x983e5152, 0xa831c66d, 0xb00327c8, 0xbf597fc7, 0xc6e00bf3, 0xd5a79147, 0x06ca6351, 0x14292967,
  0x27b70a85, 0x2e1b2138, 0x4d2c6dfc, 0x53380d13, 0x650a7354, 0x766a0abb, 0x81c2c92e, 0x92722c85,
  0xa2bfe8a1, 0xa81a664b, 0xc24b8b70, 0xc76c51a3, 0xd192e819, 0xd6990624, 0xf40e3585, 0x106aa070,
  0x19a4c116, 0x1e376c08, 0x2748774c, 0x34b0bcb5, 0x391c0cb3, 0x4ed8aa4a, 0x5b9cca4f, 0x682e6ff3,
  0x748f82ee, 0x78a5636f, 0x84c87814, 0x8cc70208, 0x90befffa, 0xa4506ceb, 0xbef9a3f7, 0xc67178f2]
def St.run (W : List Nat) (s : St) : Nat → St
  | 0 => s
  | t + 1 => (s.run W t).rnd (shaK.getD t 0) (W.getD t 0)
def St.add (s v : St) : St := ⟨(s.a + v.a) % 4294967296, (s.b + v.b) % 4294967296, (s.c + v.c) % 4294967296, (s.d + v.d) % 4294967296, (s.e + v.e) % 4294967296, (s.f + v.f) % 4294967296, (s.g + v.g) % 4294967296, (s.h + v.h) % 4294967296⟩
/-- A block more. -/
def St.block (s : St) (b : List UInt8) : St := s.add (s.run (sched b 48) 64)
def St.start : St := ⟨0x6a09e667, 0xbb67ae85, 0x3c6ef372, 0xa54ff53a, 0x510e527f, 0x9b05688c, 0x1f83d9ab, 0x5be0cd19⟩
/-- So many blocks of a text. -/
def St.blocks (s : St) (m : List UInt8) : Nat → St
  | 0 => s
  | n + 1 => (s.blocks m n).block ((m.drop (64 * n)).take 64)
def zerosN (len : Nat) : Nat := (119 - len % 64) % 64
def lenBytes (n : Nat) : List UInt8 := [56, 48, 40, 32, 24, 16, 8, 0].map fun k => UInt8.ofNat (n * 8 % 18446744073709551616 / 2 ^ k % 256)
def tailOf (len : Nat) : List UInt8 := 128 :: (List.replicate (zerosN len) 0 ++ lenBytes len)
def padL (m : List UInt8) : List UInt8 := m ++ tailOf m.length
def bytes4 (n : Nat) : List UInt8 := [UInt8.ofNat (n / 16777216), UInt8.ofNat (n / 65536 % 256), UInt8.ofNat (n / 256 % 256), UInt8.ofNat (n % 256)]
def St.out (s : St) : List UInt8 := bytes4 s.a ++ bytes4 s.b ++ bytes4 s.c ++ bytes4 s.d ++ bytes4 s.e ++ bytes4 s.f ++ bytes4 s.g ++ bytes4 s.h
def shaL (m : List UInt8) : List UInt8 := (St.start.blocks (padL m) ((padL m).length / 64)).out
theorem shaL_len (m : List UInt8) : (shaL m).length = 32 := rfl
structure St.Ok (s : St) : Prop where
  a : s.a < 4294967296
  b : s.b < 4294967296
  c : s.c < 4294967296
  d : s.d < 4294967296
  e : s.e < 4294967296
  f : s.f < 4294967296
  g : s.g < 4294967296
  h : s.h < 4294967296
theorem St.Ok.rnd {s : St} (h : s.Ok) (k w : Nat) : (s.rnd k w).Ok := ⟨Nat.mod_lt _ (by decide), h.a, h.b, h.c, Nat.mod_lt _ (by decide), h.e, h.f, h.g⟩
theorem St.Ok.run {s : St} (h : s.Ok) (W : List Nat) : ∀ t, (s.run W t).Ok
  | 0 => h
  | t + 1 => (St.Ok.run h W t).rnd _ _
theorem St.Ok.add (s v : St) : (s.add v).Ok := ⟨Nat.mod_lt _ (by decide), Nat.mod_lt _ (by decide), Nat.mod_lt _ (by decide), Nat.mod_lt _ (by decide), Nat.mod_lt _ (by decide), Nat.mod_lt _ (by decide), Nat.mod_lt _ (by decide), Nat.mod_lt _ (by decide)⟩
theorem St.Ok.block (s : St) (b : List UInt8) : (s.block b).Ok := St.Ok.add _ _
theorem St.Ok.start : St.start.Ok := ⟨by decide, by decide, by decide, by decide, by decide, by decide, by decide, by decide⟩
theorem St.Ok.blocks {s : St} (h : s.Ok) (m : List UInt8) : ∀ n, (s.blocks m n).Ok
  | 0 => h
  | _ + 1 => St.Ok.block _ _
theorem wordsOf_len : ∀ (n : Nat) (b : List UInt8), b.length = 4 * n → (wordsOf b).length = n
  | 0, [], _ => rfl
  | n + 1, a :: b :: c :: d :: r, h => by
    rw [wordsOf, List.length_cons, wordsOf_len n r (by simp at h; omega)]
theorem wordsOf_get : ∀ (n : Nat) (b : List UInt8), b.length = 4 * n → ∀ t, t < n → ∃ x y z u, b[4 * t]? = some x ∧ b[4 * t + 1]? = some y ∧ b[4 * t + 2]? = some z ∧ b[4 * t + 3]? = some u ∧ (wordsOf b)[t]? = some (word4 x y z u)
  | n + 1, a :: b :: c :: d :: r, h, 0, _ => ⟨a, b, c, d, rfl, rfl, rfl, rfl, rfl⟩
  | n + 1, a :: b :: c :: d :: r, h, t + 1, ht => by
    obtain ⟨x, y, z, u, h0, h1, h2, h3, h4⟩ := wordsOf_get n r (by simp at h; omega) t (by omega)
    refine ⟨x, y, z, u, ?_, ?_, ?_, ?_, h4⟩
    · rw [show 4 * (t + 1) = 4 * t + 4 by omega]; exact h0
    · rw [show 4 * (t + 1) + 1 = 4 * t + 1 + 4 by omega]; exact h1
    · rw [show 4 * (t + 1) + 2 = 4 * t + 2 + 4 by omega]; exact h2
    · rw [show 4 * (t + 1) + 3 = 4 * t + 3 + 4 by omega]; exact h3
theorem word4_lt (a b c d : UInt8) : word4 a b c d < 4294967296 := by
  have := UInt8.toNat_lt a
  have := UInt8.toNat_lt b
  have := UInt8.toNat_lt c
  have := UInt8.toNat_lt d
  unfold word4
  omega
theorem sched_len (b : List UInt8) (h : b.length = 64) : ∀ k, (sched b k).length = 16 + k
  | 0 => wordsOf_len 16 b (by omega)
  | k + 1 => by rw [sched, List.length_append, sched_len b h k]; rfl
theorem sched_lt (b : List UInt8) (h : b.length = 64) : ∀ k, ∀ x ∈ sched b k, x < 4294967296
  | 0, x, hx => by
    obtain ⟨i, hi, rfl⟩ := List.mem_iff_getElem.1 hx
    have hl := sched_len b h 0
    obtain ⟨p, q, r, s, _, _, _, _, e⟩ := wordsOf_get 16 b (by omega) i (by omega)
    have : (sched b 0)[i] = word4 p q r s := by
      have e2 : (sched b 0)[i]? = some (word4 p q r s) := e
      rw [List.getElem?_eq_getElem hi] at e2
      exact Option.some.inj e2
    rw [this]
    exact word4_lt ..
  | k + 1, x, hx => by
    rw [sched, List.mem_append] at hx
    rcases hx with hx | hx
    · exact sched_lt b h k x hx
    · rw [List.mem_singleton.1 hx]
      exact Nat.mod_lt _ (by decide)
theorem padL_len (m : List UInt8) : (padL m).length % 64 = 0 := by
  unfold padL tailOf lenBytes zerosN
  simp only [List.length_append, List.length_cons, List.length_replicate, List.length_map, List.length_nil]
  omega

/-! ### The machine's words -/
theorem bv_nat {a : Nat} (h : a < 4294967296) : (BitVec.ofInt 32 (a : Int)).toNat = a := by
  rw [BitVec.toNat_ofInt]
  omega
theorem wrap_u32 (n : Int) : IntKind.wrap .u32 n = n % 4294967296 := rfl
theorem wrap_nat (a : Nat) : IntKind.wrap .u32 (a : Int) = ((a % 4294967296 : Nat) : Int) := by
  rw [wrap_u32]
  omega
theorem bits_xor {a b : Nat} (ha : a < 4294967296) (hb : b < 4294967296) : bits .xor .u32 (a : Int) (b : Int) = ((a ^^^ b : Nat) : Int) := by
  have h : a ^^^ b < 2 ^ 32 := Nat.xor_lt_two_pow ha hb
  show IntKind.wrap .u32 (((BitVec.ofInt 32 (a : Int) ^^^ BitVec.ofInt 32 (b : Int)).toNat : Nat) : Int) = _
  rw [BitVec.toNat_xor, bv_nat ha, bv_nat hb, wrap_nat, Nat.mod_eq_of_lt h]
theorem bits_and {a b : Nat} (ha : a < 4294967296) (hb : b < 4294967296) : bits .and .u32 (a : Int) (b : Int) = ((a &&& b : Nat) : Int) := by
  have h : a &&& b < 2 ^ 32 := Nat.and_lt_two_pow _ hb
  show IntKind.wrap .u32 (((BitVec.ofInt 32 (a : Int) &&& BitVec.ofInt 32 (b : Int)).toNat : Nat) : Int) = _
  rw [BitVec.toNat_and, bv_nat ha, bv_nat hb, wrap_nat, Nat.mod_eq_of_lt h]
theorem bits_or {a b : Nat} (ha : a < 4294967296) (hb : b < 4294967296) : bits .or .u32 (a : Int) (b : Int) = ((a ||| b : Nat) : Int) := by
  have h : a ||| b < 2 ^ 32 := Nat.or_lt_two_pow ha hb
  show IntKind.wrap .u32 (((BitVec.ofInt 32 (a : Int) ||| BitVec.ofInt 32 (b : Int)).toNat : Nat) : Int) = _
  rw [BitVec.toNat_or, bv_nat ha, bv_nat hb, wrap_nat, Nat.mod_eq_of_lt h]
theorem or_mul (k : Nat) (a b : Nat) (hb : b < 2 ^ k) : a * 2 ^ k ||| b = a * 2 ^ k + b := by
  rw [Nat.mul_comm, ← Nat.two_pow_add_eq_or_of_lt hb]
theorem word4_or (a b c d : UInt8) : ((a.toNat * 16777216 ||| b.toNat * 65536) ||| c.toNat * 256) ||| d.toNat = word4 a b c d := by
  have h1 := UInt8.toNat_lt a
  have h2 := UInt8.toNat_lt b
  have h3 := UInt8.toNat_lt c
  have h4 := UInt8.toNat_lt d
  have e1 := or_mul 24 a.toNat (b.toNat * 65536) (by omega)
  have e2 := or_mul 16 (a.toNat * 256 + b.toNat) (c.toNat * 256) (by omega)
  have e3 := or_mul 8 ((a.toNat * 256 + b.toNat) * 256 + c.toNat) d.toNat (by omega)
  unfold word4
  rw [show (16777216 : Nat) = 2 ^ 24 from rfl, e1, show a.toNat * 2 ^ 24 + b.toNat * 65536 = (a.toNat * 256 + b.toNat) * 2 ^ 16 by omega, e2,
    show (a.toNat * 256 + b.toNat) * 2 ^ 16 + c.toNat * 256 = ((a.toNat * 256 + b.toNat) * 256 + c.toNat) * 2 ^ 8 by omega, e3]

theorem turn_any (x n : Nat) (hx : x < 4294967296) (h1 : 1 ≤ n) (h2 : n ≤ 31) (w : World) :
    Calls Tryz.prog 155 #[.int .u32 (x : Int), .int .i64 (n : Int)] w fun e w' => e = .returned (.int .u32 ((rotN x n : Nat) : Int)) ∧ ∃ q, w' = w.drewN q := by
  have hd : ((x : Int) / 2 ^ n) = ((x / 2 ^ n : Nat) : Int) := by rw [Int.natCast_ediv]; rfl
  have hm : ((x : Int) * 2 ^ (32 - n) % 4294967296) = ((x * 2 ^ (32 - n) % 4294967296 : Nat) : Int) := by rw [Int.natCast_emod, Int.natCast_mul, Int.natCast_pow]; rfl
  have hb := bits_or (a := x / 2 ^ n) (b := x * 2 ^ (32 - n) % 4294967296) (Nat.lt_of_le_of_lt (Nat.div_le_self ..) hx) (Nat.mod_lt _ (by decide))
  rw [← hd, ← hm] at hb
  have HB := Lib.hid hb
  clear hd hm hb
  go_enter Tryz.func155, Tryz.ntmps155
  go_wp2_with fail
  go_quiet (fail)
  go_wp2_with fail
  go_ret
  refine ⟨?_, nq, rfl⟩
  show Ending.returned (Value.int IntKind.u32 (bits BinOp.or IntKind.u32 ((x : Int) / 2 ^ n) ((x : Int) * 2 ^ (32 - n) % 4294967296))) = _
  rw [HB.out]
  rfl
theorem turn_at (x n : Nat) (k : Int) (hk : k = (n : Int)) (hx : x < 4294967296) (h1 : 1 ≤ n) (h2 : n ≤ 31) (w : World) :
    Calls Tryz.prog 155 #[.int .u32 (x : Int), .int .i64 k] w fun e w' => e = .returned (.int .u32 ((rotN x n : Nat) : Int)) ∧ ∃ q, w' = w.drewN q := by
  subst hk
  exact turn_any x n hx h1 h2 w
theorem quiet_add {P : Program} {f : FuncId} {args : Array Value} {w : World} {a n : Nat} {v : Value}
    (h : Calls P f args (w.drewN (a + n)) fun e w' => e = .returned v ∧ ∃ m, w' = (w.drewN (a + n)).drewN m) :
    Calls P f args (w.drewN (a + n)) fun e w'' => e = .returned v ∧ ∃ m, w'' = w.drewN (a + m) :=
  h.mono fun _ _ ⟨he, m, hm⟩ => ⟨he, n + m, by rw [hm, World.drewN_drewN, Nat.add_assoc]⟩
theorem xor_lt32 {a b : Nat} (ha : a < 4294967296) (hb : b < 4294967296) : a ^^^ b < 4294967296 := Nat.xor_lt_two_pow (n := 32) ha hb
theorem and_lt32 {a b : Nat} (hb : b < 4294967296) : a &&& b < 4294967296 := Nat.and_lt_two_pow (n := 32) _ hb
theorem div_cast (x k : Nat) : ((x : Int) / (k : Int)) = ((x / k : Nat) : Int) := by rw [Int.natCast_ediv]
theorem sg0_bits {x : Nat} (h : x < 4294967296) : bits .xor .u32 (bits .xor .u32 ((rotN x 7 : Nat) : Int) ((rotN x 18 : Nat) : Int)) ((x : Int) / 8) = ((sg0 x : Nat) : Int) := by
  rw [bits_xor (rotN_lt h) (rotN_lt h), show ((x : Int) / 8) = ((x / 8 : Nat) : Int) from div_cast x 8, bits_xor (xor_lt32 (rotN_lt h) (rotN_lt h)) (by omega)]
  rfl
theorem sg1_bits {x : Nat} (h : x < 4294967296) : bits .xor .u32 (bits .xor .u32 ((rotN x 17 : Nat) : Int) ((rotN x 19 : Nat) : Int)) ((x : Int) / 1024) = ((sg1 x : Nat) : Int) := by
  rw [bits_xor (rotN_lt h) (rotN_lt h), show ((x : Int) / 1024) = ((x / 1024 : Nat) : Int) from div_cast x 1024, bits_xor (xor_lt32 (rotN_lt h) (rotN_lt h)) (by omega)]
  rfl
theorem bg0_bits {x : Nat} (h : x < 4294967296) : bits .xor .u32 (bits .xor .u32 ((rotN x 2 : Nat) : Int) ((rotN x 13 : Nat) : Int)) ((rotN x 22 : Nat) : Int) = ((bg0 x : Nat) : Int) := by
  rw [bits_xor (rotN_lt h) (rotN_lt h), bits_xor (xor_lt32 (rotN_lt h) (rotN_lt h)) (rotN_lt h)]
  rfl
theorem bg1_bits {x : Nat} (h : x < 4294967296) : bits .xor .u32 (bits .xor .u32 ((rotN x 6 : Nat) : Int) ((rotN x 11 : Nat) : Int)) ((rotN x 25 : Nat) : Int) = ((bg1 x : Nat) : Int) := by
  rw [bits_xor (rotN_lt h) (rotN_lt h), bits_xor (xor_lt32 (rotN_lt h) (rotN_lt h)) (rotN_lt h)]
  rfl
theorem ch_bits {e f g : Nat} (he : e < 4294967296) (hf : f < 4294967296) (hg : g < 4294967296) : bits .xor .u32 (bits .and .u32 (e : Int) (f : Int)) (bits .and .u32 (bits .xor .u32 4294967295 (e : Int)) (g : Int)) = ((chN e f g : Nat) : Int) := by
  rw [bits_and he hf, show (4294967295 : Int) = ((4294967295 : Nat) : Int) from rfl, bits_xor (by decide) he, bits_and (xor_lt32 (by decide) he) hg, bits_xor (and_lt32 hf) (and_lt32 hg)]
  rfl
theorem mj_bits {a b c : Nat} (ha : a < 4294967296) (hb : b < 4294967296) (hc : c < 4294967296) : bits .xor .u32 (bits .xor .u32 (bits .and .u32 (a : Int) (b : Int)) (bits .and .u32 (a : Int) (c : Int))) (bits .and .u32 (b : Int) (c : Int)) = ((mjN a b c : Nat) : Int) := by
  rw [bits_and ha hb, bits_and ha hc, bits_and hb hc, bits_xor (and_lt32 hb) (and_lt32 hc), bits_xor (xor_lt32 (and_lt32 hb) (and_lt32 hc)) (and_lt32 hc)]
  rfl
theorem sg0_lt {x : Nat} (h : x < 4294967296) : sg0 x < 4294967296 := xor_lt32 (xor_lt32 (rotN_lt h) (rotN_lt h)) (by omega)
theorem sg1_lt {x : Nat} (h : x < 4294967296) : sg1 x < 4294967296 := xor_lt32 (xor_lt32 (rotN_lt h) (rotN_lt h)) (by omega)
end Go.Proofs.YticlgcfodlcpcaaGreatDoor

namespace Go.Proofs.YticlgcfodlcpcaaGreatDoor

/-- A hash, hashed so many times. -/
def chainF : Nat → List UInt8 → List UInt8
  | 0, h => h
  | n + 1, h => shaL (2 :: chainF n h)
theorem chainF_len (n : Nat) (h : List UInt8) (hh : h.length = 32) : (chainF n h).length = 32 := by
  cases n with
  | zero => exact hh
  | succ n => exact shaL_len _
theorem chainF_add (a b : Nat) (h : List UInt8) : chainF b (chainF a h) = chainF (a + b) h := by
  induction b with
  | zero => rfl
  | succ b ih => rw [chainF, ih]; rfl
def be2 (i : Nat) : List UInt8 := [UInt8.ofNat (i / 256), UInt8.ofNat i]
def be4 (i : Nat) : List UInt8 := [UInt8.ofNat (i / 16777216), UInt8.ofNat (i / 65536), UInt8.ofNat (i / 256), UInt8.ofNat i]
/-- The beginning of a chain of a secret. -/
def beginF (s : List UInt8) (i : Nat) : List UInt8 := shaL (3 :: (s ++ be2 i))
theorem beginF_len (s : List UInt8) (i : Nat) : (beginF s i).length = 32 := shaL_len _
/-- All chains as one hash. -/
def endF (l : List (List UInt8)) : List UInt8 := shaL (4 :: l.flatten)
/-- Half a byte of a message. -/
def nib (m : List UInt8) (i : Nat) : Nat := if i % 2 = 0 then (m.getD (i / 2) 0).toNat / 16 else (m.getD (i / 2) 0).toNat % 16
def nibSum (m : List UInt8) : Nat → Nat
  | 0 => 0
  | k + 1 => nibSum m k + (15 - nib m k)
/-- A message's digits. -/
def dig (m : List UInt8) (i : Nat) : Nat := if i < 64 then nib m i else nibSum m 64 / 16 ^ (66 - i) % 16
theorem nib_le (m : List UInt8) (i : Nat) : nib m i ≤ 15 := by
  unfold nib
  have := (m.getD (i / 2) 0).toNat_lt
  split <;> omega
theorem nibSum_le (m : List UInt8) : ∀ k, nibSum m k ≤ 15 * k
  | 0 => Nat.le_refl _
  | k + 1 => by
    have := nibSum_le m k
    rw [nibSum]
    omega
theorem dig_le (m : List UInt8) (i : Nat) : dig m i ≤ 15 := by
  unfold dig
  split
  · exact nib_le m i
  · omega
def signF (s m : List UInt8) : List (List UInt8) := (List.range 67).map fun i => chainF (dig m i) (beginF s i)
def recoverF (m : List UInt8) (c : List (List UInt8)) : List UInt8 := endF ((List.range 67).map fun i => chainF (15 - dig m i) (c.getD i []))
def publicF (s : List UInt8) : List UInt8 := endF ((List.range 67).map fun i => chainF 15 (beginF s i))
theorem publicF_len (s : List UInt8) : (publicF s).length = 32 := shaL_len _
theorem recoverF_len (m : List UInt8) (c : List (List UInt8)) : (recoverF m c).length = 32 := shaL_len _
theorem signF_length (s m : List UInt8) : (signF s m).length = 67 := by simp [signF]
theorem signF_len (s m : List UInt8) : ∀ h ∈ signF s m, h.length = 32 := by
  intro h hh
  simp only [signF, List.mem_map] at hh
  obtain ⟨i, _, rfl⟩ := hh
  exact chainF_len _ _ (beginF_len _ _)
/-- What was signed is recovered. -/
theorem recover_sign (s m : List UInt8) : recoverF m (signF s m) = publicF s := by
  unfold recoverF publicF
  congr 1
  refine List.map_congr_left fun i hi => ?_
  have hi' : i < 67 := List.mem_range.1 hi
  have e : (signF s m).getD i [] = chainF (dig m i) (beginF s i) := by
    unfold signF
    rw [List.getD_eq_getElem?_getD, List.getElem?_map, List.getElem?_range hi']
    rfl
  rw [e, chainF_add, show dig m i + (15 - dig m i) = 15 by have := dig_le m i; omega]

def ownF (s : List UInt8) (i : Nat) : List UInt8 := shaL (5 :: (s ++ be4 i))
def msgF (i : Nat) (t : List UInt8) : List UInt8 := shaL (6 :: (be4 i ++ t))
/-- A node of a tree of keys. -/
def knode (s : List UInt8) : Nat → Nat → List UInt8
  | 0, i => shaL (0 :: publicF (ownF s i))
  | j + 1, i => shaL (1 :: (knode s j (2 * i) ++ knode s j (2 * i + 1)))
theorem knode_len (s : List UInt8) (j i : Nat) : (knode s j i).length = 32 := by cases j <;> exact shaL_len _
/-- The other of a node's two. -/
def sib (n : Nat) : Nat := if n % 2 = 0 then n + 1 else n - 1
def kpath (s : List UInt8) (h i : Nat) : List (List UInt8) := (List.range h).map fun j => knode s j (sib (i / 2 ^ j))
theorem kpath_length (s : List UInt8) (h i : Nat) : (kpath s h i).length = h := by simp [kpath]
theorem kpath_len (s : List UInt8) (h i : Nat) : ∀ x ∈ kpath s h i, x.length = 32 := by
  intro x hx
  simp only [kpath, List.mem_map] at hx
  obtain ⟨j, _, rfl⟩ := hx
  exact knode_len _ _ _

/-- On to the next level at which the leaf stands on the right side. -/
def upF : Nat → Nat → Nat → Nat × Nat
  | 0, n, l => (n, l)
  | f + 1, n, l => if n % 2 = 0 ∧ n ≠ 0 then upF f (n / 2) (l / 2) else (n, l)
/-- What a path says that the root is. -/
def rootF : Nat → Nat → List UInt8 → List (List UInt8) → Option (List UInt8)
  | _, last, h, [] => if last = 0 then some h else none
  | n, last, h, p :: r =>
    if last = 0 then none
    else if n % 2 = 1 ∨ n = last then rootF ((upF 64 n last).1 / 2) ((upF 64 n last).2 / 2) (shaL (1 :: (p ++ h))) r
    else rootF (n / 2) (last / 2) (shaL (1 :: (h ++ p))) r
theorem upF_odd (f n l : Nat) (h : n % 2 = 1) : upF f n l = (n, l) := by
  cases f with
  | zero => rfl
  | succ f => rw [upF, if_neg (by omega)]
theorem rootF_len : ∀ (r : List (List UInt8)) (n last : Nat) (h x : List UInt8), h.length = 32 → rootF n last h r = some x → x.length = 32
  | [], n, last, h, x, hh, e => by
    unfold rootF at e
    split at e
    · cases e; exact hh
    · cases e
  | p :: r, n, last, h, x, hh, e => by
    unfold rootF at e
    split at e
    · cases e
    · split at e
      · exact rootF_len r _ _ _ _ (shaL_len _) e
      · exact rootF_len r _ _ _ _ (shaL_len _) e
/-- The path of a leaf of a tree of keys says the tree's root. -/
theorem root_kpath (s : List UInt8) (h i : Nat) (hi : i < 2 ^ h) :
    ∀ d j, j + d = h → rootF (i / 2 ^ j) (2 ^ d - 1) (knode s j (i / 2 ^ j)) ((kpath s h i).drop j) = some (knode s h 0)
  | 0, j, e => by
    obtain rfl : j = h := by omega
    rw [List.drop_of_length_le (by rw [kpath_length]; omega), Nat.div_eq_of_lt hi]
    rfl
  | d + 1, j, e => by
    have ih := root_kpath s h i hi d (j + 1) (by omega)
    have hj : j < h := by omega
    have hd : (kpath s h i).drop j = knode s j (sib (i / 2 ^ j)) :: (kpath s h i).drop (j + 1) := by
      rw [List.drop_eq_getElem_cons (by rw [kpath_length]; exact hj)]
      congr 1
      simp [kpath]
    have hp : 1 ≤ 2 ^ d := Nat.one_le_two_pow
    have hlast : 2 ^ (d + 1) - 1 ≠ 0 := by rw [Nat.pow_succ]; omega
    have hhalf : (2 ^ (d + 1) - 1) / 2 = 2 ^ d - 1 := by rw [Nat.pow_succ]; omega
    have hdiv : i / 2 ^ (j + 1) = i / 2 ^ j / 2 := by rw [Nat.pow_succ, Nat.div_div_eq_div_mul]
    rw [hd, rootF, if_neg hlast]
    rw [hdiv] at ih
    rw [knode] at ih
    by_cases ho : i / 2 ^ j % 2 = 1
    · rw [if_pos (Or.inl ho), upF_odd _ _ _ ho]
      have h1 : 2 * (i / 2 ^ j / 2) + 1 = i / 2 ^ j := by omega
      have h2 : sib (i / 2 ^ j) = 2 * (i / 2 ^ j / 2) := by unfold sib; rw [if_neg (by omega)]; omega
      rw [h2]
      rw [h1] at ih
      simp only [hhalf]
      exact ih
    · have hlt : i / 2 ^ j < 2 ^ (d + 1) := by
        rw [Nat.div_lt_iff_lt_mul (Nat.two_pow_pos j), ← Nat.pow_add, show d + 1 + j = h by omega]
        exact hi
      have hne : ¬ i / 2 ^ j = 2 ^ (d + 1) - 1 := by rw [Nat.pow_succ]; rw [Nat.pow_succ] at hlt; omega
      rw [if_neg (by rintro (h | h); exact ho h; exact hne h)]
      have h1 : 2 * (i / 2 ^ j / 2) = i / 2 ^ j := by omega
      have h2 : sib (i / 2 ^ j) = 2 * (i / 2 ^ j / 2) + 1 := by unfold sib; rw [if_pos (by omega)]; omega
      rw [h2]
      rw [h1] at ih
      rw [hhalf]
      simp only [h1]
      exact ih

/-- A signature that may be. -/
def mayF (idx : Int) (c p : List (List UInt8)) : Bool := decide (0 ≤ idx) && decide (idx ≤ 63) && decide (c.length = 67) && decide (p.length ≤ 6)
/-- What keys.Verify answers: 0, ErrArg or ErrSigned. -/
def verF (pub : List UInt8) (height : Int) (t : List UInt8) (idx : Int) (c p : List (List UInt8)) : Nat :=
  if height < 0 ∨ 6 < height ∨ mayF idx c p = false ∨ (2 ^ height.toNat : Int) ≤ idx ∨ (p.length : Int) ≠ height then 2
  else if rootF idx.toNat (2 ^ height.toNat - 1) (shaL (0 :: recoverF (msgF idx.toNat t) c)) p = some pub then 0 else 12
/-- What was signed holds. -/
theorem ver_sign (s t : List UInt8) (h i : Nat) (hh : h ≤ 6) (hi : i < 2 ^ h) :
    verF (knode s h 0) h t i (signF (ownF s i) (msgF i t)) (kpath s h i) = 0 := by
  have h64 : 2 ^ h ≤ 2 ^ 6 := Nat.pow_le_pow_right (by omega) hh
  have hr := root_kpath s h i hi h 0 (by omega)
  rw [Nat.pow_zero, Nat.div_one, List.drop_zero, knode] at hr
  have hm : mayF i (signF (ownF s i) (msgF i t)) (kpath s h i) = true := by
    have i1 : decide ((0 : Int) ≤ (i : Int)) = true := decide_eq_true (by omega)
    have i2 : decide ((i : Int) ≤ 63) = true := decide_eq_true (by omega)
    have i3 : decide (h ≤ 6) = true := decide_eq_true hh
    rw [mayF, signF_length, kpath_length, i1, i2, i3]
    rfl
  unfold verF
  rw [if_neg, Int.toNat_natCast, Int.toNat_natCast, recover_sign, if_pos hr]
  rw [hm, kpath_length]
  rintro (a | a | a | a | a)
  · omega
  · omega
  · cases a
  · rw [Int.toNat_natCast] at a
    have h2 : (((2 ^ h : Nat)) : Int) = (2 : Int) ^ h := by push_cast; rfl
    rw [← h2] at a
    omega
  · exact a rfl
end Go.Proofs.YticlgcfodlcpcaaGreatDoor
