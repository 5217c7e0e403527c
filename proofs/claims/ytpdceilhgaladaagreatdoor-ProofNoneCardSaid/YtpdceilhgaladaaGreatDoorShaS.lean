/- The digest in plain Lean: what both texts of it compute. -/
import Derived.Test.YtpdceilhgaladaaGreatDoorRun
namespace Go.Vc.Sha
open Go.Vc

def rl (x : UInt64) (a : Nat) : UInt64 := shl x (64 - a) ||| shr x a
def mixS (x : UInt64) (a b c : Nat) : UInt64 := rl x a ^^^ rl x b ^^^ rl x c
def smallS (x : UInt64) (a b s : Nat) : UInt64 := rl x a ^^^ rl x b ^^^ shr x s
def push8 (x : UInt64) (c : UInt8) : UInt64 := shl x 8 ||| UInt64.ofNat c.toNat
/-- The t-th word of a block. -/
def wordS (b : List UInt8) (t : Nat) : UInt64 := ((b.drop (8 * t)).take 8).foldl push8 0
def nextS (b : List UInt8) (m : List UInt64) (t : Nat) : UInt64 :=
  if t < 16 then wordS b t else smallS (m.getD (t - 2) 0) 19 61 6 + m.getD (t - 7) 0 + smallS (m.getD (t - 15) 0) 1 8 7 + m.getD (t - 16) 0
/-- The first t words of the schedule. -/
def schedS (b : List UInt8) : Nat → List UInt64
  | 0 => []
  | t + 1 => schedS b t ++ [nextS b (schedS b t) t]
def oneS (k x : UInt64) (v : List UInt64) : UInt64 := v.getD 7 0 + mixS (v.getD 4 0) 14 18 41 + ((v.getD 4 0 &&& v.getD 5 0) ^^^ (~~~(v.getD 4 0) &&& v.getD 6 0)) + k + x
def twoS (v : List UInt64) : UInt64 := mixS (v.getD 0 0) 28 34 39 + ((v.getD 0 0 &&& v.getD 1 0) ^^^ (v.getD 0 0 &&& v.getD 2 0) ^^^ (v.getD 1 0 &&& v.getD 2 0))
def stepS (k x : UInt64) (v : List UInt64) : List UInt64 :=
  [oneS k x v + twoS v, v.getD 0 0, v.getD 1 0, v.getD 2 0, v.getD 3 0 + oneS k x v, v.getD 4 0, v.getD 5 0, v.getD 6 0]
/-- The words after t rounds. -/
def roundsS (ks : List UInt64) (b : List UInt8) (v : List UInt64) : Nat → List UInt64
  | 0 => v
  | t + 1 => stepS (ks.getD t 0) ((schedS b 80).getD t 0) (roundsS ks b v t)
def blockS (ks v : List UInt64) (b : List UInt8) : List UInt64 := v.zipWith (· + ·) (roundsS ks b v 80)
/-- All whole blocks, and what is left. -/
def chunksS (ks : List UInt64) (v : List UInt64) (b : List UInt8) : List UInt64 × List UInt8 :=
  if b.length < 128 then (v, b) else chunksS ks (blockS ks v (b.take 128)) (b.drop 128)
termination_by b.length
decreasing_by simp only [List.length_drop]; omega
def byteS (n : UInt64) (s : Nat) : UInt8 := UInt8.ofNat (shr n s).toNat
def be8 (n : UInt64) : List UInt8 := [byteS n 56, byteS n 48, byteS n 40, byteS n 32, byteS n 24, byteS n 16, byteS n 8, byteS n 0]
/-- How many zeros stand behind the first bit's byte. -/
def zerosS (n : Nat) : Nat := (111 + 128 - n % 128) % 128
def padS (n : Nat) (bits : UInt64) : List UInt8 := 128 :: (List.replicate (zerosS n + 8) 0 ++ be8 bits)
def digestS (ks v0 : List UInt64) (b : List UInt8) : List UInt8 := ((chunksS ks v0 (b ++ padS b.length (8 * UInt64.ofNat b.length))).1.map be8).flatten

/-- The constants: the eight words at first, the eighty of the rounds. -/
def v0S : List UInt64 := [
  0x6a09e667f3bcc908, 0xbb67ae8584caa73b, 0x3c6ef372fe94f82b, 0xa54ff53a5f1d36f1,
  0x510e527fade682d1, 0x9b05688c2b3e6c1f, 0x1f83d9abfb41bd6b, 0x5be0cd19137e2179]
def kS : List UInt64 := [
  0x428a2f98d728ae22, 0x7137449123ef65cd, 0xb5c0fbcfec4d3b2f, 0xe9b5dba58189dbbc,
  0x3956c25bf348b538, 0x59f111f1b605d019, 0x923f82a4af194f9b, 0xab1c5ed5da6d8118,
  0xd807aa98a3030242, 0x12835b0145706fbe, 0x243185be4ee4b28c, 0x550c7dc3d5ffb4e2,
  0x72be5d74f27b896f, 0x80deb1fe3b1696b1, 0x9bdc06a725c71235, 0xc19bf174cf692694,
  0xe49b69c19ef14ad2, 0xefbe4786384f25e3, 0x0fc19dc68b8cd5b5, 0x240ca1cc77ac9c65,
  0x2de92c6f592b0275, 0x4a7484aa6ea6e483, 0x5cb0a9dcbd41fbd4, 0x76f988da831153b5,
  0x983e5152ee66dfab, 0xa831c66d2db43210, 0xb00327c898fb213f, 0xbf597fc7beef0ee4,
  0xc6e00bf33da88fc2, 0xd5a79147930aa725, 0x06ca6351e003826f, 0x142929670a0e6e70,
  0x27b70a8546d22ffc, 0x2e1b21385c26c926, 0x4d2c6dfc5ac42aed, 0x53380d139d95b3df,
  0x650a73548baf63de, 0x766a0abb3c77b2a8, 0x81c2c92e47edaee6, 0x92722c851482353b,
  0xa2bfe8a14cf10364, 0xa81a664bbc423001, 0xc24b8b70d0f89791, 0xc76c51a30654be30,
  0xd192e819d6ef5218, 0xd69906245565a910, 0xf40e35855771202a, 0x106aa07032bbd1b8,
  0x19a4c116b8d2d0c8, 0x1e376c085141ab53, 0x2748774cdf8eeb99, 0x34b0bcb5e19b48a8,
  0x391c0cb3c5c95a63, 0x4ed8aa4ae3418acb, 0x5b9cca4f7763e373, 0x682e6ff3d6b2b8a3,
  0x748f82ee5defb2fc, 0x78a5636f43172f60, 0x84c87814a1f0ab72, 0x8cc702081a6439ec,
  0x90befffa23631e28, 0xa4506cebde82bde9, 0xbef9a3f7b2c67915, 0xc67178f2e372532b,
  0xca273eceea26619c, 0xd186b8c721c0c207, 0xeada7dd6cde0eb1e, 0xf57d4f7fee6ed178,
  0x06f067aa72176fba, 0x0a637dc5a2c898a6, 0x113f9804bef90dae, 0x1b710b35131c471b,
  0x28db77f523047d84, 0x32caab7b40c72493, 0x3c9ebe0a15c9bebc, 0x431d67c49c100d4c,
  0x4cc5d4becb3e42b6, 0x597f299cfc657e2a, 0x5fcb6fab3ad6faec, 0x6c44198c4a475817]
/-- The digest of bytes. -/
def shaS (b : List UInt8) : List UInt8 := digestS kS v0S b

theorem schedS_length (b : List UInt8) : ∀ t, (schedS b t).length = t
  | 0 => rfl
  | t + 1 => by simp [schedS, schedS_length b t]
theorem schedS_get (b : List UInt8) : ∀ t u, u < t → (schedS b t).getD u 0 = nextS b (schedS b u) u
  | t + 1, u, h => by
    by_cases e : u = t
    · subst e; simp [schedS, List.getD, schedS_length]
    · have := schedS_get b t u (by omega)
      rw [← this]
      simp only [schedS, List.getD]
      rw [List.getElem?_append_left (by rw [schedS_length]; omega)]
theorem stepS_length (k x : UInt64) (v : List UInt64) : (stepS k x v).length = 8 := rfl
theorem roundsS_length (ks : List UInt64) (b : List UInt8) (v : List UInt64) (h : v.length = 8) : ∀ t, (roundsS ks b v t).length = 8
  | 0 => h
  | _ + 1 => rfl
theorem blockS_length (ks v : List UInt64) (b : List UInt8) (h : v.length = 8) : (blockS ks v b).length = 8 := by simp [blockS, roundsS_length ks b v h, h]
theorem chunksS_lt (ks v : List UInt64) (b : List UInt8) (h : b.length < 128) : chunksS ks v b = (v, b) := by unfold chunksS; simp [h]
theorem chunksS_ge (ks v : List UInt64) (b : List UInt8) (h : 128 ≤ b.length) : chunksS ks v b = chunksS ks (blockS ks v (b.take 128)) (b.drop 128) := by
  conv => lhs; unfold chunksS
  simp [show ¬ b.length < 128 by omega]
theorem chunksS_prop (ks : List UInt64) : ∀ (n : Nat) (v : List UInt64) (b : List UInt8), b.length ≤ n → v.length = 8 → (chunksS ks v b).1.length = 8 ∧ (chunksS ks v b).2.length < 128 ∧ (chunksS ks v b).2.length % 128 = b.length % 128 := by
  intro n
  induction n with
  | zero => intro v b hb hv; rw [chunksS_lt ks v b (by omega)]; exact ⟨hv, Nat.lt_of_le_of_lt hb (by omega), rfl⟩
  | succ n ih =>
    intro v b hb hv
    by_cases h : b.length < 128
    · rw [chunksS_lt ks v b h]; exact ⟨hv, h, rfl⟩
    · rw [chunksS_ge ks v b (by omega)]
      have := ih (blockS ks v (b.take 128)) (b.drop 128) (by simp; omega) (blockS_length ks v _ hv)
      refine ⟨this.1, this.2.1, ?_⟩
      rw [this.2.2, List.length_drop]
      omega
/-- Bytes behind bytes. -/
theorem chunksS_append (ks : List UInt64) (c : List UInt8) : ∀ (n : Nat) (v : List UInt64) (b : List UInt8), b.length ≤ n → chunksS ks v (b ++ c) = chunksS ks (chunksS ks v b).1 ((chunksS ks v b).2 ++ c) := by
  intro n
  induction n with
  | zero => intro v b hb; rw [chunksS_lt ks v b (by omega)]
  | succ n ih =>
    intro v b hb
    by_cases h : b.length < 128
    · rw [chunksS_lt ks v b h]
    · rw [chunksS_ge ks v (b ++ c) (by simp; omega), chunksS_ge ks v b (by omega), List.take_append_of_le_length (by omega), List.drop_append_of_le_length (by omega)]
      exact ih _ _ (by simp; omega)
theorem padS_length (n : Nat) (bits : UInt64) : (n + (padS n bits).length) % 128 = 0 := by simp [padS, zerosS, be8]; omega
end Go.Vc.Sha
