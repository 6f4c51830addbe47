import GoSem.Op.String
set_option linter.unusedVariables false
namespace Go.Proofs.YtlkjeneffohnkaaDoor
abbrev Bs := ByteArray
/-- 32 zeros -/
def hz : Bs := ⟨Array.replicate 32 0⟩
theorem hz_size : hz.size = 32 := rfl
/-- a number in eight bytes, the highest first -/
def eight (n : Nat) : Bs := ⟨#[(n / 72057594037927936).toUInt8, (n / 281474976710656).toUInt8, (n / 1099511627776).toUInt8, (n / 4294967296).toUInt8, (n / 16777216).toUInt8, (n / 65536).toUInt8, (n / 256).toUInt8, n.toUInt8]⟩
theorem eight_size (n : Nat) : (eight n).size = 8 := rfl
/-! SHA-256 -/
def rr (x : BitVec 32) (n : Nat) : BitVec 32 := (x <<< (32 - n)) ||| (x >>> n)
def bw (b : UInt8) : BitVec 32 := BitVec.ofNat 32 b.toNat
def byteAt (c : ByteArray) (i : Nat) : UInt8 := if h : i < c.size then c[i] else 0
/-- word i of a chunk -/
def word (c : ByteArray) (i : Nat) : BitVec 32 := (bw (byteAt c (4 * i)) <<< 24) ||| (bw (byteAt c (4 * i + 1)) <<< 16) ||| (bw (byteAt c (4 * i + 2)) <<< 8) ||| bw (byteAt c (4 * i + 3))
def sig0 (x : BitVec 32) : BitVec 32 := rr x 7 ^^^ rr x 18 ^^^ x >>> 3
def sig1 (x : BitVec 32) : BitVec 32 := rr x 17 ^^^ rr x 19 ^^^ x >>> 10
/-- the first words of a chunk's schedule -/
def sched (c : ByteArray) : Nat → List (BitVec 32)
  | 0 => []
  | n + 1 => sched c n ++ [if n < 16 then word c n else (sched c n).getD (n - 16) 0 + sig0 ((sched c n).getD (n - 15) 0) + (sched c n).getD (n - 7) 0 + sig1 ((sched c n).getD (n - 2) 0)]
theorem sched_length (c : ByteArray) : ∀ n, (sched c n).length = n
  | 0 => rfl
  | n + 1 => by simp [sched, sched_length c n]
/-- SHA-256's constants -/
def kk : List (BitVec 32) := [1116352408#32, 1899447441#32, 3049323471#32, 3921009573#32, 961987163#32, 1508970993#32, 2453635748#32, 2870763221#32, 3624381080#32, 310598401#32, 607225278#32, 1426881987#32, 1925078388#32, 2162078206#32, 2614888103#32, 3248222580#32, 3835390401#32, 4022224774#32, 264347078#32, 604807628#32, 770255983#32, 1249150122#32, 1555081692#32, 1996064986#32, 2554220882#32, 2821834349#32, 2952996808#32, 3210313671#32, 3336571891#32, 3584528711#32, 113926993#32, 338241895#32, 666307205#32, 773529912#32, 1294757372#32, 1396182291#32, 1695183700#32, 1986661051#32, 2177026350#32, 2456956037#32, 2730485921#32, 2820302411#32, 3259730800#32, 3345764771#32, 3516065817#32, 3600352804#32, 4094571909#32, 275423344#32, 430227734#32, 506948616#32, 659060556#32, 883997877#32, 958139571#32, 1322822218#32, 1537002063#32, 1747873779#32, 1955562222#32, 2024104815#32, 2227730452#32, 2361852424#32, 2428436474#32, 2756734187#32, 3204031479#32, 3329325298#32]
structure St where
  (a b c d e f g h : BitVec 32)
def tOf (s : St) (k w : BitVec 32) : BitVec 32 := s.h + (rr s.e 6 ^^^ rr s.e 11 ^^^ rr s.e 25) + ((s.e &&& s.f) ^^^ (~~~ s.e &&& s.g)) + k + w
def uOf (s : St) : BitVec 32 := (rr s.a 2 ^^^ rr s.a 13 ^^^ rr s.a 22) + ((s.a &&& s.b) ^^^ (s.a &&& s.c) ^^^ (s.b &&& s.c))
def rnd (s : St) (k w : BitVec 32) : St := ⟨tOf s k w + uOf s, s.a, s.b, s.c, s.d + tOf s k w, s.e, s.f, s.g⟩
def rnds (s : St) (c : ByteArray) : Nat → St
  | 0 => s
  | n + 1 => rnd (rnds s c n) (kk.getD n 0) ((sched c 64).getD n 0)
def St.plus (s t : St) : St := ⟨s.a + t.a, s.b + t.b, s.c + t.c, s.d + t.d, s.e + t.e, s.f + t.f, s.g + t.g, s.h + t.h⟩
def mixM (s : St) (c : ByteArray) : St := s.plus (rnds s c 64)
def st0 : St := ⟨1779033703#32, 3144134277#32, 1013904242#32, 2773480762#32, 1359893119#32, 2600822924#32, 528734635#32, 1541459225#32⟩
/-- the text, filled up -/
def filled (s : Bs) : Bs := s ++ ⟨#[128]⟩ ++ ⟨Array.replicate ((119 - s.size % 64) % 64) 0⟩ ++ eight (s.size * 8)
def chunk (p : Bs) (k : Nat) : Bs := p.extract (64 * k) (64 * k + 64)
def stAt (p : Bs) : Nat → St
  | 0 => st0
  | k + 1 => mixM (stAt p k) (chunk p k)
def by8 (x : BitVec 32) (n : Nat) : UInt8 := (x >>> n).toNat.toUInt8
def outS (s : St) : Bs := ⟨#[by8 s.a 24, by8 s.a 16, by8 s.a 8, by8 s.a 0, by8 s.b 24, by8 s.b 16, by8 s.b 8, by8 s.b 0, by8 s.c 24, by8 s.c 16, by8 s.c 8, by8 s.c 0, by8 s.d 24, by8 s.d 16, by8 s.d 8, by8 s.d 0, by8 s.e 24, by8 s.e 16, by8 s.e 8, by8 s.e 0, by8 s.f 24, by8 s.f 16, by8 s.f 8, by8 s.f 0, by8 s.g 24, by8 s.g 16, by8 s.g 8, by8 s.g 0, by8 s.h 24, by8 s.h 16, by8 s.h 8, by8 s.h 0]⟩
@[irreducible] def sha (s : Bs) : Bs := outS (stAt (filled s) ((filled s).size / 64))
theorem sha_is (s : Bs) : sha s = outS (stAt (filled s) ((filled s).size / 64)) := by unfold sha; rfl
theorem sha_size (s : Bs) : (sha s).size = 32 := by rw [sha_is]; rfl
theorem filled_size (s : Bs) : (filled s).size % 64 = 0 := by
  simp only [filled, ByteArray.size_append, eight_size]
  show (s.size + 1 + (Array.replicate ((119 - s.size % 64) % 64) (0 : UInt8)).size + 8) % 64 = 0
  rw [Array.size_replicate]; omega
end Go.Proofs.YtlkjeneffohnkaaDoor
