/- texts P7 Pure in one. -/

/- Plain: SHA-256 and HMAC over lists of bytes; words are numbers below 2^32. -/
namespace Go.Proofs.YtkhcpnmbhbhcgaaDoor
/-- the first primes: what the numbers that follow leave over -/
def isPrime (k : Nat) : Bool := (List.range k).all fun d => d < 2 || k % d != 0
def primesS (n : Nat) : List Nat := ((List.range 400).filter fun k => 2 ≤ k && isPrime k).take n
/-- the search: between low and high, as long as ok says 'low enough' -/
def seek (ok : Nat → Bool) : Nat → Nat → Nat → Nat
  | 0, low, _ => low
  | n + 1, low, high => if ok ((low + high) / 2) then seek ok n ((low + high) / 2) high else seek ok n low ((low + high) / 2)
def squareS (p : Nat) : Nat := seek (fun r => r * r / 18446744073709551616 < p) 38 0 274877906944 % 4294967296
def cubeS (p : Nat) : Nat := seek (fun r => r * r / 18446744073709551616 * r + (r * r % 18446744073709551616) * r / 18446744073709551616 < p * 4294967296) 36 0 68719476736 % 4294967296
def kS : List Nat := (primesS 64).map cubeS
def hS : List Nat := (primesS 8).map squareS
def rotr (x r : Nat) : Nat := (x >>> r) ||| ((x <<< (32 - r)) % 4294967296)
def sg0 (x : Nat) : Nat := rotr x 7 ^^^ rotr x 18 ^^^ (x >>> 3)
def sg1 (x : Nat) : Nat := rotr x 17 ^^^ rotr x 19 ^^^ (x >>> 10)
def Sg1 (x : Nat) : Nat := rotr x 6 ^^^ rotr x 11 ^^^ rotr x 25
def Sg0 (x : Nat) : Nat := rotr x 2 ^^^ rotr x 13 ^^^ rotr x 22
def chS (e f g : Nat) : Nat := (e &&& f) ^^^ ((4294967295 - e) &&& g)
def majS (a b c : Nat) : Nat := (a &&& b) ^^^ (a &&& c) ^^^ (b &&& c)
/-- four bytes as a word -/
def be4 (p : List UInt8) : Nat := p.foldl (fun n b => n * 256 + b.toNat) 0
/-- the block's sixteen words, and 48 more -/
def words (p : List UInt8) : List Nat := (List.range 16).map fun i => be4 ((p.drop (4 * i)).take 4)
def moreW (w : List Nat) : List Nat := w ++ [(w.getD (w.length - 16) 0 + sg0 (w.getD (w.length - 15) 0) + w.getD (w.length - 7) 0 + sg1 (w.getD (w.length - 2) 0)) % 4294967296]
def iter {α : Type} (f : α → α) : Nat → α → α
  | 0, x => x
  | n + 1, x => iter f n (f x)
def schedS (p : List UInt8) : List Nat := iter moreW 48 (words p)
/-- one round -/
def roundS (k w : Nat) : List Nat → List Nat
  | [a, b, c, d, e, f, g, h] =>
    let x := (h + Sg1 e + chS e f g + k + w) % 4294967296
    let y := (Sg0 a + majS a b c) % 4294967296
    [(x + y) % 4294967296, a, b, c, (d + x) % 4294967296, e, f, g]
  | v => v
def roundsS : List (Nat × Nat) → List Nat → List Nat
  | [], v => v
  | (k, w) :: r, v => roundsS r (roundS k w v)
def blockS (s : List Nat) (p : List UInt8) : List Nat := (s.zip (roundsS (kS.zip (schedS p)) s)).map fun x => (x.1 + x.2) % 4294967296
def blocksS : Nat → List Nat → List UInt8 → List Nat
  | 0, s, _ => s
  | n + 1, s, p => blocksS n (blockS s (p.take 64)) (p.drop 64)
def be8 (n : Nat) : List UInt8 := [UInt8.ofNat (n / 72057594037927936), UInt8.ofNat (n / 281474976710656), UInt8.ofNat (n / 1099511627776), UInt8.ofNat (n / 4294967296), UInt8.ofNat (n / 16777216), UInt8.ofNat (n / 65536), UInt8.ofNat (n / 256), UInt8.ofNat n]
def padS (p : List UInt8) : List UInt8 := p ++ [128] ++ List.replicate ((120 - (p.length + 1) % 64) % 64) 0 ++ be8 (p.length * 8)
def wordB (w : Nat) : List UInt8 := [UInt8.ofNat (w / 16777216), UInt8.ofNat (w / 65536), UInt8.ofNat (w / 256), UInt8.ofNat w]
def shaS (p : List UInt8) : List UInt8 := (blocksS ((padS p).length / 64) hS (padS p)).flatMap wordB
def keyS (key : List UInt8) : List UInt8 := let k := if 64 < key.length then shaS key else key; k ++ List.replicate (64 - k.length) 0
def macS (key p : List UInt8) : List UInt8 := shaS ((keyS key).map (· ^^^ 0x5c) ++ shaS ((keyS key).map (· ^^^ 0x36) ++ p))
theorem awake_sha : (shaS [])[0]? = some 0xe3 ∧ (shaS [])[3]? = some 0x42 := by decide +kernel
theorem awake_mac : (macS [74, 101, 102, 101] [119, 104, 97, 116, 32, 100, 111, 32, 121, 97, 32, 119, 97, 110, 116, 32, 102, 111, 114, 32, 110, 111, 116, 104, 105, 110, 103, 63])[0]? = some 0x5b ∧ (macS [74, 101, 102, 101] [119, 104, 97, 116, 32, 100, 111, 32, 121, 97, 32, 119, 97, 110, 116, 32, 102, 111, 114, 32, 110, 111, 116, 104, 105, 110, 103, 63])[3]? = some 0x46 := by decide +kernel
end Go.Proofs.YtkhcpnmbhbhcgaaDoor

/- Plain functions on lists of bytes: what the program's functions compute. -/
namespace Go.Proofs.YtkhcpnmbhbhcgaaDoor
def beNat (bs : List UInt8) (n : Nat) : Nat := bs.foldl (fun n b => n * 256 + b.toNat) n
theorem beNat_snoc (bs : List UInt8) (b : UInt8) (n : Nat) : beNat (bs ++ [b]) n = beNat bs n * 256 + b.toNat := by
  unfold beNat; rw [List.foldl_append]; rfl
theorem beNat_lt (bs : List UInt8) : ∀ n, beNat bs n < (n + 1) * 256 ^ bs.length := by
  induction bs with
  | nil => intro n; simp [beNat]
  | cons b bs ih =>
    intro n
    have h := ih (n * 256 + b.toNat)
    have hb : b.toNat < 256 := b.toNat_lt
    have e : beNat (b :: bs) n = beNat bs (n * 256 + b.toNat) := rfl
    rw [e, List.length_cons, Nat.pow_succ, Nat.mul_comm (256 ^ bs.length) 256, ← Nat.mul_assoc]
    refine Nat.lt_of_lt_of_le h (Nat.mul_le_mul_right _ (by omega))
theorem beNat_lt' (bs : List UInt8) (n : Nat) (hn : n < 64) (h6 : bs.length ≤ 7) : beNat bs n < 4611686018427387904 := by
  have h := beNat_lt bs n
  have h2 : 256 ^ bs.length ≤ 256 ^ 7 := Nat.pow_le_pow_right (by omega) h6
  have h3 : (n + 1) * 256 ^ bs.length ≤ 64 * 256 ^ 7 := Nat.mul_le_mul (by omega) h2
  omega
/-- the number in front, and what stands behind it -/
def takeS (p : List UInt8) : Option (Nat × List UInt8) :=
  match p with
  | [] => none
  | b :: _ => if p.length < 2 ^ (b.toNat / 64) then none else some (beNat ((p.drop 1).take (2 ^ (b.toNat / 64) - 1)) (b.toNat % 64), p.drop (2 ^ (b.toNat / 64)))
theorem takeS_cons (b : UInt8) (bs : List UInt8) : takeS (b :: bs) = if (b :: bs).length < 2 ^ (b.toNat / 64) then none else some (beNat (bs.take (2 ^ (b.toNat / 64) - 1)) (b.toNat % 64), (b :: bs).drop (2 ^ (b.toNat / 64))) := rfl
theorem take_snoc {α : Type} (l : List α) (k : Nat) (x : α) (h : l[k]? = some x) : l.take (k + 1) = l.take k ++ [x] := by
  rw [List.take_add_one, h]; rfl
theorem take_head_snoc (ys : List UInt8) (k n0 : Nat) (y : UInt8) (h : ys[k]? = some y) : beNat (ys.take (k + 1)) n0 = beNat (ys.take k) n0 * 256 + y.toNat := by
  rw [take_snoc ys k y h, beNat_snoc]
/-- a name, with its length ahead: the error, or the name -/
def idS (p : List UInt8) : Int × List UInt8 :=
  match p with
  | [] => (2, [])
  | b :: r => if 20 < b.toNat then (4, []) else if r.length < b.toNat then (2, []) else (0, r.take b.toNat)
theorem idS_nil : idS [] = (2, []) := rfl
theorem idS_cons (b : UInt8) (r : List UInt8) : idS (b :: r) = if 20 < b.toNat then (4, []) else if r.length < b.toNat then (2, []) else (0, r.take b.toNat) := rfl
/-- a number's lowest bytes, the highest first -/
def beB : Nat → Nat → List UInt8
  | 0, _ => []
  | k + 1, n => beB k (n / 256) ++ [UInt8.ofNat n]
theorem beB_len (k : Nat) : ∀ n, (beB k n).length = k := by
  induction k with
  | zero => intro n; rfl
  | succ k ih => intro n; simp [beB, ih]
/-- what stands ahead of a packet's bytes: the error, the head (long, level, to, from), where its number begins, where it ends -/
structure Hd where
  long : Bool
  level : Int
  to : List UInt8
  frm : List UInt8
def hd0 : Hd := ⟨false, 0, [], []⟩
def errR (e : Int) : Int × Hd × Nat × Nat := (e, hd0, 0, 0)
def readN (p : List UInt8) (lv : Int) (i1 i2 r4 : List UInt8) : Int × Hd × Nat × Nat :=
  match takeS r4 with
  | none => errR 2
  | some (v, r5) => if r5.length < v then errR 2 else (0, ⟨true, lv, i1, i2⟩, p.length - r5.length, p.length - r5.length + v)
def readT (p : List UInt8) (lv : Int) (i1 i2 r3 : List UInt8) : Int × Hd × Nat × Nat :=
  if lv = 0 then
    match takeS r3 with
    | none => errR 2
    | some (v, r4) => if v ≠ 0 then errR 4 else readN p lv i1 i2 r4
  else readN p lv i1 i2 r3
def readL (p : List UInt8) (lv : Int) : Int × Hd × Nat × Nat :=
  if p.length < 5 then errR 2 else
  if (p.drop 1).take 4 ≠ [0, 0, 0, 1] then errR 4 else
  if (idS (p.drop 5)).1 ≠ 0 then errR (idS (p.drop 5)).1 else
  if (idS (p.drop (5 + 1 + (idS (p.drop 5)).2.length))).1 ≠ 0 then errR (idS (p.drop (5 + 1 + (idS (p.drop 5)).2.length))).1 else
  readT p lv (idS (p.drop 5)).2 (idS (p.drop (5 + 1 + (idS (p.drop 5)).2.length))).2 (p.drop (5 + 1 + (idS (p.drop 5)).2.length + 1 + (idS (p.drop (5 + 1 + (idS (p.drop 5)).2.length))).2.length))
def readP (p : List UInt8) : Int × Hd × Nat × Nat :=
  match p with
  | [] => errR 2
  | b :: _ =>
    if b.toNat / 64 % 2 = 0 then errR 4 else
    if b.toNat < 128 then
      if p.length < 9 then errR 2 else (0, ⟨false, 2, (p.drop 1).take 8, []⟩, 9, p.length)
    else if b.toNat / 16 % 4 = 0 then readL p 0
    else if b.toNat / 16 % 4 = 2 then readL p 1
    else errR 4
def readS (p : List UInt8) : Int × Hd × Nat × Nat :=
  if (readP p).1 ≠ 0 then errR (readP p).1 else
  if (readP p).2.2.2 < (readP p).2.2.1 + 20 then errR 4 else readP p
theorem takeS_suffix {xs : List UInt8} {n at_ v : Nat} {ys : List UInt8} (hl : xs.length = n) (h : takeS (xs.drop at_) = some (v, ys)) (hat : at_ ≤ n) : ys.length ≤ n - at_ ∧ xs.drop (n - ys.length) = ys := by
  have : ∃ k, ys = (xs.drop at_).drop k ∧ k ≤ (xs.drop at_).length := by
    cases hp : xs.drop at_ with
    | nil => rw [hp] at h; cases h
    | cons b bs =>
      rw [hp, takeS_cons] at h
      split at h
      · cases h
      · next hk =>
        simp only [Option.some.injEq, Prod.mk.injEq] at h
        exact ⟨_, h.2.symm, by omega⟩
  obtain ⟨k, hk, hk2⟩ := this
  rw [List.length_drop, hl] at hk2
  rw [List.drop_drop] at hk
  have hy : ys.length = n - (at_ + k) := by rw [hk, List.length_drop, hl]
  refine ⟨by omega, ?_⟩
  rw [hy, show n - (n - (at_ + k)) = at_ + k by omega, hk]
theorem idS_len (p : List UInt8) (h : (idS p).1 = 0) : 1 + (idS p).2.length ≤ p.length := by
  cases p with
  | nil => simp [idS] at h
  | cons b r =>
    rw [idS_cons] at h ⊢
    split at h
    · simp at h
    · split at h
      · simp at h
      · next h1 h2 =>
        rw [if_neg h1, if_neg h2]
        simp only [List.length_take, List.length_cons]; omega
end Go.Proofs.YtkhcpnmbhbhcgaaDoor
