/- Plain: SHA-256 and HMAC over lists of bytes; words are numbers below 2^32. -/
namespace Go.Proofs.Ytlncnjcbgfeaoaa
/-- the first primes: what the numbers that follow leave over -/
def isPrime (k : Nat) : Bool := (List.range k).all fun d => d < 2 || k % d != 0
def primesS (n : Nat) : List Nat := ((List.range 400).filter fun k => 2 ≤ k && isPrime k).take n
/-- the search: between low and high, as long as ok says 'low enough' -/
def seek (ok : Nat → Bool) : Nat → Nat → Nat → Nat
  | 0, low, _ => low
  | n + 1, low, high => if ok ((low + high) / 2) then seek ok n ((low + high) / 2) high else seek ok n low ((low + high) / 2)
def squareS (p : Nat) : Nat := seek (fun r => r * r / 18446744073709551616 < p) 38 0 274877906944 % 4294967296
def cubeS (p : Nat) : Nat := seek (fun r => r * r / 18446744073709551616 * r + (r * r % 18446744073709551616) * r / 18446744073709551616 < p * 4294967296) 36 0 68719476736 % 4294967296
def kS : List Nat := (primesS 64).map cubeS
def hS : List Nat := (primesS 8).map squareS
def rotr (x r : Nat) : Nat := (x >>> r) ||| ((x <<< (32 - r)) % 4294967296)
def sg0 (x : Nat) : Nat := rotr x 7 ^^^ rotr x 18 ^^^ (x >>> 3)
def sg1 (x : Nat) : Nat := rotr x 17 ^^^ rotr x 19 ^^^ (x >>> 10)
def Sg1 (x : Nat) : Nat := rotr x 6 ^^^ rotr x 11 ^^^ rotr x 25
def Sg0 (x : Nat) : Nat := rotr x 2 ^^^ rotr x 13 ^^^ rotr x 22
def chS (e f g : Nat) : Nat := (e &&& f) ^^^ ((4294967295 - e) &&& g)
def majS (a b c : Nat) : Nat := (a &&& b) ^^^ (a &&& c) ^^^ (b &&& c)
/-- four bytes as a word -/
def be4 (p : List UInt8) : Nat := p.foldl (fun n b => n * 256 + b.toNat) 0
/-- the block's sixteen words, and 48 more -/
def words (p : List UInt8) : List Nat := (List.range 16).map fun i => be4 ((p.drop (4 * i)).take 4)
def moreW (w : List Nat) : List Nat := w ++ [(w.getD (w.length - 16) 0 + sg0 (w.getD (w.length - 15) 0) + w.getD (w.length - 7) 0 + sg1 (w.getD (w.length - 2) 0)) % 4294967296]
def iter {α : Type} (f : α → α) : Nat → α → α
  | 0, x => x
  | n + 1, x => iter f n (f x)
def schedS (p : List UInt8) : List Nat := iter moreW 48 (words p)
/-- one round -/
def roundS (k w : Nat) : List Nat → List Nat
  | [a, b, c, d, e, f, g, h] =>
    let x := (h + Sg1 e + chS e f g + k + w) % 4294967296
    let y := (Sg0 a + majS a b c) % 4294967296
    [(x + y) % 4294967296, a, b, c, (d + x) % 4294967296, e, f, g]
  | v => v
def roundsS : List (Nat × Nat) → List Nat → List Nat
  | [], v => v
  | (k, w) :: r, v => roundsS r (roundS k w v)
def blockS (s : List Nat) (p : List UInt8) : List Nat := (s.zip (roundsS (kS.zip (schedS p)) s)).map fun x => (x.1 + x.2) % 4294967296
def blocksS : Nat → List Nat → List UInt8 → List Nat
  | 0, s, _ => s
  | n + 1, s, p => blocksS n (blockS s (p.take 64)) (p.drop 64)
def be8 (n : Nat) : List UInt8 := [UInt8.ofNat (n / 72057594037927936), UInt8.ofNat (n / 281474976710656), UInt8.ofNat (n / 1099511627776), UInt8.ofNat (n / 4294967296), UInt8.ofNat (n / 16777216), UInt8.ofNat (n / 65536), UInt8.ofNat (n / 256), UInt8.ofNat n]
def padS (p : List UInt8) : List UInt8 := p ++ [128] ++ List.replicate ((120 - (p.length + 1) % 64) % 64) 0 ++ be8 (p.length * 8)
def wordB (w : Nat) : List UInt8 := [UInt8.ofNat (w / 16777216), UInt8.ofNat (w / 65536), UInt8.ofNat (w / 256), UInt8.ofNat w]
def shaS (p : List UInt8) : List UInt8 := (blocksS ((padS p).length / 64) hS (padS p)).flatMap wordB
def keyS (key : List UInt8) : List UInt8 := let k := if 64 < key.length then shaS key else key; k ++ List.replicate (64 - k.length) 0
def macS (key p : List UInt8) : List UInt8 := shaS ((keyS key).map (· ^^^ 0x5c) ++ shaS ((keyS key).map (· ^^^ 0x36) ++ p))
theorem awake_sha : (shaS [])[0]? = some 0xe3 ∧ (shaS [])[3]? = some 0x42 := by decide +kernel
theorem awake_mac : (macS [74, 101, 102, 101] [119, 104, 97, 116, 32, 100, 111, 32, 121, 97, 32, 119, 97, 110, 116, 32, 102, 111, 114, 32, 110, 111, 116, 104, 105, 110, 103, 63])[0]? = some 0x5b ∧ (macS [74, 101, 102, 101] [119, 104, 97, 116, 32, 100, 111, 32, 121, 97, 32, 119, 97, 110, 116, 32, 102, 111, 114, 32, 110, 111, 116, 104, 105, 110, 103, 63])[3]? = some 0x46 := by decide +kernel
end Go.Proofs.Ytlncnjcbgfeaoaa
