/- SHA-256 over lists of whole numbers, in the model's own words for 32 bits; what both texts compute. Nothing of the program here. -/
import Derived.Laws.BitsAllLaws
namespace Go.Proofs.Ytjcnhpnadfhjaaa

def w32 (n : Int) : Int := n % 4294967296
def xor32 (a b : Int) : Int := bits .xor .u32 a b
def and32 (a b : Int) : Int := bits .and .u32 a b
def or32 (a b : Int) : Int := bits .or .u32 a b
def not32 (a : Int) : Int := bits .xor .u32 IntKind.u32.max a
def rotr (x : Int) (n : Nat) : Int := or32 (w32 (x * 2 ^ (32 - n))) (x / 2 ^ n)

def shaK : List Int := [
  0x428a2f98, 0x71374491, 0xb5c0fbcf, 0xe9b5dba5, 0x3956c25b, 0x59f111f1, 0x923f82a4, 0xab1c5ed5,
  0xd807aa98, 0x12835b01, 0x243185be, 0x550c7dc3, 0x72be5d74, 0x80deb1fe, 0x9bdc06a7, 0xc19bf174,
  0xe49b69c1, 0xefbe4786, 0x0fc19dc6, 0x240ca1cc, 0x2de92c6f, 0x4a7484aa, 0x5cb0a9dc, 0x76f988da,
  0x983e5152, 0xa831c66d, 0xb00327c8, 0xbf597fc7, 0xc6e00bf3, 0xd5a79147, 0x06ca6351, 0x14292967,
  0x27b70a85, 0x2e1b2138, 0x4d2c6dfc, 0x53380d13, 0x650a7354, 0x766a0abb, 0x81c2c92e, 0x92722c85,
  0xa2bfe8a1, 0xa81a664b, 0xc24b8b70, 0xc76c51a3, 0xd192e819, 0xd6990624, 0xf40e3585, 0x106aa070,
  0x19a4c116, 0x1e376c08, 0x2748774c, 0x34b0bcb5, 0x391c0cb3, 0x4ed8aa4a, 0x5b9cca4f, 0x682e6ff3,
  0x748f82ee, 0x78a5636f, 0x84c87814, 0x8cc70208, 0x90befffa, 0xa4506ceb, 0xbef9a3f7, 0xc67178f2]

/-- a word of four bytes, from a place on -/
def word (bs : List Int) (at_ : Nat) : Int :=
  or32 (or32 (or32 (w32 (w32 (bs[at_]?.getD 0) * 16777216)) (w32 (w32 (bs[at_ + 1]?.getD 0) * 65536))) (w32 (w32 (bs[at_ + 2]?.getD 0) * 256))) (w32 (bs[at_ + 3]?.getD 0))

def words (bs : List Int) (at_ : Nat) : Nat → List Int
  | 0 => []
  | n + 1 => words bs at_ n ++ [word bs (at_ + 4 * n)]

def sig0 (x : Int) : Int := xor32 (xor32 (rotr x 7) (rotr x 18)) (x / 8)
def sig1 (x : Int) : Int := xor32 (xor32 (rotr x 17) (rotr x 19)) (x / 1024)
def nextW (ws : List Int) (i : Nat) : Int :=
  w32 (w32 (w32 (ws[(i - 16)]?.getD 0 + sig0 (ws[(i - 15)]?.getD 0)) + ws[(i - 7)]?.getD 0) + sig1 (ws[(i - 2)]?.getD 0))

/-- the words up to number 16 + n -/
def sched (m : List Int) : Nat → List Int
  | 0 => m
  | n + 1 => sched m n ++ [nextW (sched m n) (16 + n)]

structure St where
  a : Int
  b : Int
  c : Int
  d : Int
  e : Int
  f : Int
  g : Int
  h : Int

def St.l (s : St) : List Int := [s.a, s.b, s.c, s.d, s.e, s.f, s.g, s.h]

def bigS1 (e : Int) : Int := xor32 (xor32 (rotr e 6) (rotr e 11)) (rotr e 25)
def bigS0 (a : Int) : Int := xor32 (xor32 (rotr a 2) (rotr a 13)) (rotr a 22)
def chf (e f g : Int) : Int := xor32 (and32 e f) (and32 (not32 e) g)
def maj (a b c : Int) : Int := xor32 (xor32 (and32 a b) (and32 a c)) (and32 b c)

def rnd (k w : Int) (s : St) : St :=
  ⟨w32 (s.h + bigS1 s.e + chf s.e s.f s.g + k + w + (bigS0 s.a + maj s.a s.b s.c)), s.a, s.b, s.c, w32 (s.d + (s.h + bigS1 s.e + chf s.e s.f s.g + k + w)), s.e, s.f, s.g⟩

def rnds (ks ws : List Int) (s : St) : Nat → St
  | 0 => s
  | n + 1 => rnd (ks[n]?.getD 0) (ws[n]?.getD 0) (rnds ks ws s n)

def St.add (s t : St) : St := ⟨w32 (s.a + t.a), w32 (s.b + t.b), w32 (s.c + t.c), w32 (s.d + t.d), w32 (s.e + t.e), w32 (s.f + t.f), w32 (s.g + t.g), w32 (s.h + t.h)⟩

/-- one block of 64 bytes, from a place on -/
def comp (s : St) (bs : List Int) (at_ : Nat) : St := s.add (rnds shaK (sched (words bs at_ 16) 48) s 64)

/-- n blocks, from a place on -/
def comps (s : St) (bs : List Int) (at_ : Nat) : Nat → St
  | 0 => s
  | n + 1 => comp (comps s bs at_ n) bs (at_ + 64 * n)

def st0 : St := ⟨0x6a09e667, 0xbb67ae85, 0x3c6ef372, 0xa54ff53a, 0x510e527f, 0x9b05688c, 0x1f83d9ab, 0x5be0cd19⟩

def w8 (n : Int) : Int := n % 256

def bytes4 (x : Int) : List Int := [w8 (x / 16777216), w8 (x / 65536), w8 (x / 256), w8 x]
def St.bytes (s : St) : List Int := bytes4 s.a ++ bytes4 s.b ++ bytes4 s.c ++ bytes4 s.d ++ bytes4 s.e ++ bytes4 s.f ++ bytes4 s.g ++ bytes4 s.h

/-- a number's eight bytes, the greatest first -/
def bytes8 (n : Int) : List Int := (List.range 8).map fun i => w8 (n / 2 ^ (8 * (7 - i)))

/-- what stands behind n bytes -/
def padN (n : Nat) : Nat := (119 - n % 64) % 64
def pad (n : Nat) : List Int := 0x80 :: (List.replicate (padN n) 0 ++ bytes8 (((n : Int) * 8) % 18446744073709551616))

def sha (bs : List Int) : List Int := (comps st0 (bs ++ pad bs.length) 0 ((bs ++ pad bs.length).length / 64)).bytes

def hexD (c : Int) : Int := if c < 10 then c + 48 else c + 87

end Go.Proofs.Ytjcnhpnadfhjaaa
