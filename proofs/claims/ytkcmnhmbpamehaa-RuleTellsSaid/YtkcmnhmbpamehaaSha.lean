/- SHA-256 over lists of bytes, with no program in sight. -/
import Derived.Test.YtkcmnhmbpamehaaWords
namespace Go.Proofs.Ytkcmnhmbpamehaa

def rotr (x : BitVec 32) (n : Nat) : BitVec 32 := x >>> n ||| x <<< (32 - n)
def fs0 (x : BitVec 32) : BitVec 32 := rotr x 7 ^^^ rotr x 18 ^^^ x >>> 3
def fs1 (x : BitVec 32) : BitVec 32 := rotr x 17 ^^^ rotr x 19 ^^^ x >>> 10
def fb0 (x : BitVec 32) : BitVec 32 := rotr x 2 ^^^ rotr x 13 ^^^ rotr x 22
def fb1 (x : BitVec 32) : BitVec 32 := rotr x 6 ^^^ rotr x 11 ^^^ rotr x 25
def fch (x y z : BitVec 32) : BitVec 32 := x &&& y ^^^ ~~~x &&& z
def fmj (x y z : BitVec 32) : BitVec 32 := x &&& y ^^^ x &&& z ^^^ y &&& z

/-- The rounds' numbers. -/
def K64 : List (BitVec 32) := [BitVec.ofNat 32 1116352408, BitVec.ofNat 32 1899447441, BitVec.ofNat 32 3049323471, BitVec.ofNat 32 3921009573, BitVec.ofNat 32 961987163, BitVec.ofNat 32 1508970993, BitVec.ofNat 32 2453635748, BitVec.ofNat 32 2870763221, BitVec.ofNat 32 3624381080, BitVec.ofNat 32 310598401, BitVec.ofNat 32 607225278, BitVec.ofNat 32 1426881987, BitVec.ofNat 32 1925078388, BitVec.ofNat 32 2162078206, BitVec.ofNat 32 2614888103, BitVec.ofNat 32 3248222580, BitVec.ofNat 32 3835390401, BitVec.ofNat 32 4022224774, BitVec.ofNat 32 264347078, BitVec.ofNat 32 604807628, BitVec.ofNat 32 770255983, BitVec.ofNat 32 1249150122, BitVec.ofNat 32 1555081692, BitVec.ofNat 32 1996064986, BitVec.ofNat 32 2554220882, BitVec.ofNat 32 2821834349, BitVec.ofNat 32 2952996808, BitVec.ofNat 32 3210313671, BitVec.ofNat 32 3336571891, BitVec.ofNat 32 3584528711, BitVec.ofNat 32 113926993, BitVec.ofNat 32 338241895, BitVec.ofNat 32 666307205, BitVec.ofNat 32 773529912, BitVec.ofNat 32 1294757372, BitVec.ofNat 32 1396182291, BitVec.ofNat 32 1695183700, BitVec.ofNat 32 1986661051, BitVec.ofNat 32 2177026350, BitVec.ofNat 32 2456956037, BitVec.ofNat 32 2730485921, BitVec.ofNat 32 2820302411, BitVec.ofNat 32 3259730800, BitVec.ofNat 32 3345764771, BitVec.ofNat 32 3516065817, BitVec.ofNat 32 3600352804, BitVec.ofNat 32 4094571909, BitVec.ofNat 32 275423344, BitVec.ofNat 32 430227734, BitVec.ofNat 32 506948616, BitVec.ofNat 32 659060556, BitVec.ofNat 32 883997877, BitVec.ofNat 32 958139571, BitVec.ofNat 32 1322822218, BitVec.ofNat 32 1537002063, BitVec.ofNat 32 1747873779, BitVec.ofNat 32 1955562222, BitVec.ofNat 32 2024104815, BitVec.ofNat 32 2227730452, BitVec.ofNat 32 2361852424, BitVec.ofNat 32 2428436474, BitVec.ofNat 32 2756734187, BitVec.ofNat 32 3204031479, BitVec.ofNat 32 3329325298]
theorem K64_length : K64.length = 64 := rfl

/-- A state of eight words. -/
structure St where
  a : BitVec 32
  b : BitVec 32
  c : BitVec 32
  d : BitVec 32
  e : BitVec 32
  f : BitVec 32
  g : BitVec 32
  h : BitVec 32

def St.list (s : St) : List (BitVec 32) := [s.a, s.b, s.c, s.d, s.e, s.f, s.g, s.h]
def St.start : St := ⟨BitVec.ofNat 32 0x6a09e667, BitVec.ofNat 32 0xbb67ae85, BitVec.ofNat 32 0x3c6ef372, BitVec.ofNat 32 0xa54ff53a, BitVec.ofNat 32 0x510e527f, BitVec.ofNat 32 0x9b05688c, BitVec.ofNat 32 0x1f83d9ab, BitVec.ofNat 32 0x5be0cd19⟩

/-- Four bytes as a word, the first one highest. -/
def be32 (p q r s : BitVec 8) : BitVec 32 := p.setWidth 32 <<< 24 ||| q.setWidth 32 <<< 16 ||| r.setWidth 32 <<< 8 ||| s.setWidth 32

/-- The schedule's next word. -/
def wnext (l : List (BitVec 8)) (W : List (BitVec 32)) : BitVec 32 :=
  if W.length < 16 then be32 (l.getD (4 * W.length) 0) (l.getD (4 * W.length + 1) 0) (l.getD (4 * W.length + 2) 0) (l.getD (4 * W.length + 3) 0)
  else W.getD (W.length - 16) 0 + fs0 (W.getD (W.length - 15) 0) + W.getD (W.length - 7) 0 + fs1 (W.getD (W.length - 2) 0)
/-- The schedule's first n words, for a block that begins the list l. -/
def sched (l : List (BitVec 8)) : Nat → List (BitVec 32)
  | 0 => []
  | n + 1 => sched l n ++ [wnext l (sched l n)]
theorem sched_length (l : List (BitVec 8)) (n : Nat) : (sched l n).length = n := by
  induction n with
  | zero => rfl
  | succ n ih => simp [sched, ih]

/-- One round. -/
def rnd (s : St) (k w : BitVec 32) : St :=
  let t := s.h + fb1 s.e + fch s.e s.f s.g + k + w
  let u := fb0 s.a + fmj s.a s.b s.c
  ⟨t + u, s.a, s.b, s.c, s.d + t, s.e, s.f, s.g⟩
def rnds (W : List (BitVec 32)) (s : St) : Nat → St
  | 0 => s
  | n + 1 => rnd (rnds W s n) (K64.getD n 0) (W.getD n 0)
def St.plus (s v : St) : St := ⟨s.a + v.a, s.b + v.b, s.c + v.c, s.d + v.d, s.e + v.e, s.f + v.f, s.g + v.g, s.h + v.h⟩
/-- The whole schedule. -/
@[irreducible] def wsched (l : List (BitVec 8)) : List (BitVec 32) := sched l 64
theorem wsched_eq (l : List (BitVec 8)) : wsched l = sched l 64 := by unfold wsched; rfl
/-- A block (the first 64 bytes of l) is taken in. -/
def block (s : St) (l : List (BitVec 8)) : St := s.plus (rnds (wsched l) s 64)
/-- n blocks, one behind the other. -/
def blocks (l : List (BitVec 8)) (s : St) : Nat → St
  | 0 => s
  | n + 1 => block (blocks l s n) (l.drop (64 * n))

def word8 (x : BitVec 32) : List (BitVec 8) := [(x >>> 24).setWidth 8, (x >>> 16).setWidth 8, (x >>> 8).setWidth 8, x.setWidth 8]
def St.bytes (s : St) : List (BitVec 8) := s.list.flatMap word8
theorem St.bytes_length (s : St) : s.bytes.length = 32 := rfl

/-- A number's eight bytes, the first one highest. -/
def be64 (n : Nat) : List (BitVec 8) := (List.range 8).map fun i => BitVec.ofNat 8 (n / 2 ^ (8 * (7 - i)))
/-- How many noughts are laid behind the mark. -/
def noughts (n : Nat) : Nat := (119 - n % 64) % 64
def padded (l : List (BitVec 8)) : List (BitVec 8) := l ++ [0x80] ++ List.replicate (noughts l.length) 0 ++ be64 (8 * l.length)
/-- SHA-256. -/
@[irreducible] def sha (l : List (BitVec 8)) : List (BitVec 8) := (blocks (padded l) St.start ((padded l).length / 64)).bytes
theorem sha_eq (l : List (BitVec 8)) : sha l = (blocks (padded l) St.start ((padded l).length / 64)).bytes := by unfold sha; rfl
theorem sha_length (l : List (BitVec 8)) : (sha l).length = 32 := by rw [sha_eq]; exact St.bytes_length _

/-- HMAC. -/
def key64 (key : List (BitVec 8)) : List (BitVec 8) :=
  let k := if key.length > 64 then sha key else key
  k ++ List.replicate (64 - k.length) 0
def mac (key p : List (BitVec 8)) : List (BitVec 8) :=
  sha ((key64 key).map (· ^^^ 0x5c) ++ sha ((key64 key).map (· ^^^ 0x36) ++ p))
def bytesOf (s : String) : List (BitVec 8) := s.toUTF8.data.toList.map (·.toBitVec)

set_option maxRecDepth 100000 in
theorem sha_abc : sha [0x61, 0x62, 0x63] = [0xba, 0x78, 0x16, 0xbf, 0x8f, 0x01, 0xcf, 0xea, 0x41, 0x41, 0x40, 0xde, 0x5d, 0xae, 0x22, 0x23, 0xb0, 0x03, 0x61, 0xa3, 0x96, 0x17, 0x7a, 0x9c, 0xb4, 0x10, 0xff, 0x61, 0xf2, 0x00, 0x15, 0xad] := by decide +kernel
end Go.Proofs.Ytkcmnhmbpamehaa
