/- SHA-256 as a plain function on bytes. No program in sight. -/
import Derived.Test.YtgmafnpkhmlnnaaNum
namespace Go.Sha
open Go.Num
def rotr (x n : Nat) : Nat := ((x <<< (32 - n)) % 4294967296) ||| (x >>> n)
def big (x a b c : Nat) : Nat := rotr x a ^^^ rotr x b ^^^ rotr x c
def small (x a b p : Nat) : Nat := rotr x a ^^^ rotr x b ^^^ (x >>> p)
def K : List Nat := [
  0x428a2f98, 0x71374491, 0xb5c0fbcf, 0xe9b5dba5, 0x3956c25b, 0x59f111f1, 0x923f82a4, 0xab1c5ed5,
  0xd807aa98, 0x12835b01, 0x243185be, 0x550c7dc3, 0x72be5d74, 0x80deb1fe, 0x9bdc06a7, 0xc19bf174,
  0xe49b69c1, 0xefbe4786, 0x0fc19dc6, 0x240ca1cc, 0x2de92c6f, 0x4a7484aa, 0x5cb0a9dc, 0x76f988da,
  0x983e5152, 0xa831c66d, 0xb00327c8, 0xbf597fc7, 0xc6e00bf3, 0xd5a79147, 0x06ca6351, 0x14292967,
  0x27b70a85, 0x2e1b2138, 0x4d2c6dfc, 0x53380d13, 0x650a7354, 0x766a0abb, 0x81c2c92e, 0x92722c85,
  0xa2bfe8a1, 0xa81a664b, 0xc24b8b70, 0xc76c51a3, 0xd192e819, 0xd6990624, 0xf40e3585, 0x106aa070,
  0x19a4c116, 0x1e376c08, 0x2748774c, 0x34b0bcb5, 0x391c0cb3, 0x4ed8aa4a, 0x5b9cca4f, 0x682e6ff3,
  0x748f82ee, 0x78a5636f, 0x84c87814, 0x8cc70208, 0x90befffa, 0xa4506ceb, 0xbef9a3f7, 0xc67178f2]
def word (b : List UInt8) (t : Nat) : Nat := (b.getD (4 * t) 0).toNat <<< 24 ||| (b.getD (4 * t + 1) 0).toNat <<< 16 ||| (b.getD (4 * t + 2) 0).toNat <<< 8 ||| (b.getD (4 * t + 3) 0).toNat
def nextW (l : List Nat) (t : Nat) : Nat := (small (l.getD (t - 2) 0) 17 19 10 + l.getD (t - 7) 0 + small (l.getD (t - 15) 0) 7 18 3 + l.getD (t - 16) 0) % 4294967296
def wP (b : List UInt8) : Nat → List Nat
  | 0 => []
  | t + 1 => wP b t ++ [if t < 16 then word b t else nextW (wP b t) t]
/-- the eight words -/
structure S8 where
  a : Nat
  b : Nat
  c : Nat
  d : Nat
  e : Nat
  f : Nat
  g : Nat
  h : Nat
def S8.list (s : S8) : List Nat := [s.a, s.b, s.c, s.d, s.e, s.f, s.g, s.h]
def one (s : S8) (k w : Nat) : Nat := (s.h + big s.e 6 11 25 + ((s.e &&& s.f) ^^^ ((4294967295 - s.e) &&& s.g)) + k + w) % 4294967296
def two (s : S8) : Nat := (big s.a 2 13 22 + ((s.a &&& s.b) ^^^ (s.a &&& s.c) ^^^ (s.b &&& s.c))) % 4294967296
def step (s : S8) (k w : Nat) : S8 := ⟨(one s k w + two s) % 4294967296, s.a, s.b, s.c, (s.d + one s k w) % 4294967296, s.e, s.f, s.g⟩
def rnds (W : List Nat) (s : S8) : Nat → S8
  | 0 => s
  | t + 1 => step (rnds W s t) (K.getD t 0) (W.getD t 0)
def plus (x s : S8) : S8 := ⟨(x.a + s.a) % 4294967296, (x.b + s.b) % 4294967296, (x.c + s.c) % 4294967296, (x.d + s.d) % 4294967296, (x.e + s.e) % 4294967296, (x.f + s.f) % 4294967296, (x.g + s.g) % 4294967296, (x.h + s.h) % 4294967296⟩
def comp (s : S8) (b : List UInt8) : S8 := plus (rnds (wP b 64) s 64) s
def zeros (n : Nat) : Nat := (119 - n % 64) % 64
def pad (m : List UInt8) : List UInt8 := m ++ [0x80] ++ List.replicate (zeros m.length) 0 ++ be 8 (8 * (m.length : Int))
def run : Nat → S8 → List UInt8 → S8
  | 0, s, _ => s
  | n + 1, s, m => run n (comp s (m.take 64)) (m.drop 64)
def init : S8 := ⟨0x6a09e667, 0xbb67ae85, 0x3c6ef372, 0xa54ff53a, 0x510e527f, 0x9b05688c, 0x1f83d9ab, 0x5be0cd19⟩
def out (s : S8) : List UInt8 := s.list.flatMap fun (x : Nat) => be 4 (x : Int)
def sum (m : List UInt8) : List UInt8 := out (run ((pad m).length / 64) init (pad m))
def digit (n : Nat) : UInt8 := [48, 49, 50, 51, 52, 53, 54, 55, 56, 57, 97, 98, 99, 100, 101, 102].getD n 0
def digits (m : List UInt8) : List UInt8 := m.flatMap fun c => [digit (c.toNat / 16), digit (c.toNat % 16)]
set_option maxRecDepth 100000 in
theorem sum_abc : digits (sum [97, 98, 99]) = [98, 97, 55, 56, 49, 54, 98, 102, 56, 102, 48, 49, 99, 102, 101, 97, 52, 49, 52, 49, 52, 48, 100, 101, 53, 100, 97, 101, 50, 50, 50, 51, 98, 48, 48, 51, 54, 49, 97, 51, 57, 54, 49, 55, 55, 97, 57, 99, 98, 52, 49, 48, 102, 102, 54, 49, 102, 50, 48, 48, 49, 53, 97, 100] := by decide +kernel
end Go.Sha
