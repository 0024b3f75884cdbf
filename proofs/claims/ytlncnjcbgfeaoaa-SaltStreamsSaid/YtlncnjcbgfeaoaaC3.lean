/- salt.low4, salt.put4. -/
import Derived.Test.YtlncnjcbgfeaoaaC1
import Derived.Deep.QuietTactic
import Derived.BigQuiet
set_option maxRecDepth 100000
set_option linter.unusedVariables false
namespace Go.Proofs.Ytlncnjcbgfeaoaa
open Go.RowKit
/-- four bytes, the lowest first -/
def le4 : List UInt8 → Nat
  | x0 :: x1 :: x2 :: x3 :: _ => x0.toNat + 256 * x1.toNat + 65536 * x2.toNat + 16777216 * x3.toNat
  | _ => 0
def leB (x : Nat) : List UInt8 := [UInt8.ofNat x, UInt8.ofNat (x / 256), UInt8.ofNat (x / 65536), UInt8.ofNat (x / 16777216)]
theorem or4l (a b c d : Nat) (ha : a < 256) (hb : b < 256) (hc : c < 256) (hd : d < 256) :
    bits .or .u32 (bits .or .u32 (bits .or .u32 (a : Int) ((b : Int) * 256)) ((c : Int) * 65536)) ((d : Int) * 16777216) = ((a + 256 * b + 65536 * c + 16777216 * d : Nat) : Int) := by
  have e1 : bits .or .u32 (a : Int) ((b : Int) * 256) = ((b * 256 + a : Nat) : Int) := by
    rw [show ((b : Int) * 256) = ((b * 256 : Nat) : Int) by omega, u32_or_nat _ _ (by omega) (by omega), Nat.or_comm, show b * 256 = b * 2 ^ 8 by omega, nat_join 8 _ _ (by omega) (by omega)]
  have e2 : bits .or .u32 ((b * 256 + a : Nat) : Int) ((c : Int) * 65536) = ((c * 65536 + (b * 256 + a) : Nat) : Int) := by
    rw [show ((c : Int) * 65536) = ((c * 65536 : Nat) : Int) by omega, u32_or_nat _ _ (by omega) (by omega), Nat.or_comm, show c * 65536 = c * 2 ^ 16 by omega, nat_join 16 _ _ (by omega) (by omega)]
  rw [e1, e2, show ((d : Int) * 16777216) = ((d * 16777216 : Nat) : Int) by omega, u32_or_nat _ _ (by omega) (by omega), Nat.or_comm, show d * 16777216 = d * 2 ^ 24 by omega, nat_join 24 _ _ (by omega) (by omega)]
  omega
theorem low4_any (w : World) {a : Option Addr} {n c : Nat} {xs : List UInt8} (hx : BS w a n c xs) (x0 x1 x2 x3 : UInt8) (r : List UInt8) (hxs : xs = x0 :: x1 :: x2 :: x3 :: r) :
    Calls Try.prog 37 #[.slice a n c] w fun e w' => e = .returned (.int .u32 ((le4 [x0, x1, x2, x3] : Nat) : Int)) ∧ ∃ m, w' = w.drewN m := by
  have hl := BS.len hx
  have hn : 4 ≤ n := by rw [← hl, hxs]; simp
  have hle := RS.le hx
  have hmx := RS.max hx
  unfold maxLen at hmx
  obtain ⟨b, o, rfl, hc⟩ := hx.at_ (by omega)
  have q0 := hc 0 x0 (by rw [hxs]; rfl)
  have q1 := hc 1 x1 (by rw [hxs]; rfl)
  have q2 := hc 2 x2 (by rw [hxs]; rfl)
  have q3 := hc 3 x3 (by rw [hxs]; rfl)
  have t0 := x0.toNat_lt
  have t1 := x1.toNat_lt
  have t2 := x2.toNat_lt
  have t3 := x3.toNat_lt
  rw [Nat.add_zero] at q0
  clear hc hx hxs hl
  go_enter Try.func37, Try.ntmps37
  go_wp2
  go_quiet (fail)
  go_wp2
  go_ret
  refine ⟨ret_u32 ?_, _, rfl⟩
  rw [or4l _ _ _ _ t0 t1 t2 t3]
  simp [le4]
/-- so many of four bytes laid down -/
def putS (vs : List UInt8) (o x : Nat) : Nat → List UInt8
  | 0 => vs
  | j + 1 => (putS vs o x j).set (o + j) (UInt8.ofNat (x / 2 ^ (8 * j)))
theorem putS_len (vs : List UInt8) (o x j : Nat) : (putS vs o x j).length = vs.length := by
  induction j with
  | zero => rfl
  | succ j ih => rw [putS, List.length_set, ih]
theorem put4_any (w : World) {g o n c : Nat} {t : TypeId} {vs : List UInt8} (hA : AB w g t vs) (hn : 4 ≤ n) (ho : o + 4 ≤ vs.length) (x : Nat) (hx : x < 4294967296) :
    Calls Try.prog 44 #[.slice (some ⟨g, o, none⟩) n c, .int .u32 (x : Int)] w fun e w' => e = .returned (.tuple #[]) ∧ AB w' g t (putS vs o x 4) ∧ w.grownBy w' (some g) := by
  have HA0 := Lib.hid hA
  clear hA
  go_enter Try.func44, Try.ntmps44
  go_wp2
  go_loopw [5] (fun s5 wr => ∃ j : Nat, j ≤ 4 ∧ s5 = .int .i64 (j : Int) ∧ AB wr g t (putS vs o x j) ∧ w.grownBy wr (some g)) (fun s5 _ => 4 - (intOf s5).toNat)
  case atStart => exact ⟨0, by omega, rfl, HA0.out, World.grownBy.refl w _⟩
  case round =>
    obtain ⟨j, hj, rfl, hA, hg⟩ := hrel
    by_cases hlt : j < 4
    · obtain ⟨y, hy⟩ : ∃ y, (putS vs o x j)[o + j]? = some y := ⟨_, List.getElem?_eq_getElem (by rw [putS_len]; omega)⟩
      have q := hA.cell _ _ hy
      have f := hA.fr (o + j)
      have h2 := hA.set_ (o + j) (UInt8.ofNat (x / 2 ^ (8 * j)))
      have g2 := grown_set hg (o + j) (B (UInt8.ofNat (x / 2 ^ (8 * j))))
      have H2 := Lib.hid h2
      have G2 := Lib.hid g2
      have hj4 : j = 0 ∨ j = 1 ∨ j = 2 ∨ j = 3 := by omega
      clear hy hA hg h2 g2
      rcases hj4 with rfl | rfl | rfl | rfl
      · have hv : B (UInt8.ofNat (x / 2 ^ (8 * 0))) = .int .u8 ((x : Int) % 256) := by simp only [B, UInt8.toNat_ofNat']; congr 1 <;> omega
        rw [hv] at H2 G2
        clear hv
        rw [Nat.add_zero] at q f H2 G2
        rw [show ((0 : Nat) : Int) = 0 from rfl]
        go_wp2
        go_roundw
        case rel => exact ⟨0 + 1, by omega, rfl, H2.out, G2.out⟩
        case measure => simp [intOf]
      · have hv : B (UInt8.ofNat (x / 2 ^ (8 * 1))) = .int .u8 ((x : Int) / 256 % 256) := by simp only [B, UInt8.toNat_ofNat']; congr 1 <;> omega
        rw [hv] at H2 G2
        clear hv
        rw [show ((1 : Nat) : Int) = 1 from rfl]
        go_wp2
        go_roundw
        case rel => exact ⟨1 + 1, by omega, rfl, H2.out, G2.out⟩
        case measure => simp [intOf]
      · have hv : B (UInt8.ofNat (x / 2 ^ (8 * 2))) = .int .u8 ((x : Int) / 65536 % 256) := by simp only [B, UInt8.toNat_ofNat']; congr 1 <;> omega
        rw [hv] at H2 G2
        clear hv
        rw [show ((2 : Nat) : Int) = 2 from rfl]
        go_wp2
        go_roundw
        case rel => exact ⟨2 + 1, by omega, rfl, H2.out, G2.out⟩
        case measure => simp [intOf]
      · have hv : B (UInt8.ofNat (x / 2 ^ (8 * 3))) = .int .u8 ((x : Int) / 16777216) := by simp only [B, UInt8.toNat_ofNat']; congr 1 <;> omega
        rw [hv] at H2 G2
        clear hv
        rw [show ((3 : Nat) : Int) = 3 from rfl]
        go_wp2
        go_roundw
        case rel => exact ⟨3 + 1, by omega, rfl, H2.out, G2.out⟩
        case measure => simp [intOf]
    · obtain rfl : j = 4 := by omega
      have HA := Lib.hid hA
      have HG := Lib.hid hg
      clear hA hg
      go_wp2
      go_end0
      exact ⟨rfl, HA.out, HG.out⟩
end Go.Proofs.Ytlncnjcbgfeaoaa
