/- ring.four: four bytes as a word. -/
import Derived.Test.YtlncnjcbgfeaoaaDoorG1
set_option maxRecDepth 100000
set_option linter.unusedVariables false
namespace Go.Proofs.YtlncnjcbgfeaoaaDoor
open Go.RowKit
theorem BS.at_ {w : World} {a : Option Addr} {n c : Nat} {xs : List UInt8} (h : BS w a n c xs) (hn : 0 < n) : ∃ b o, a = some ⟨b, o, none⟩ ∧ ∀ j x, xs[j]? = some x → w.cell? ⟨b, o + j, none⟩ = some (.int .u8 (x.toNat : Int)) := by
  cases a with
  | none => have := (RS.nil_inv h).1; omega
  | some ad =>
    obtain ⟨h1, h2⟩ := h.2.2.2.2.2 ad rfl
    have hs := h1 (Nat.lt_of_lt_of_le hn (RS.le h))
    refine ⟨ad.block, ad.off, by cases ad; simp_all, fun j x hx => h2 j (B x) (by rw [List.getElem?_map, hx]; rfl)⟩
theorem or4 (a b c d : Nat) (ha : a < 256) (hb : b < 256) (hc : c < 256) (hd : d < 256) :
    bits .or .u32 (bits .or .u32 (bits .or .u32 ((a : Int) * 16777216) ((b : Int) * 65536)) ((c : Int) * 256)) (d : Int) = ((((a * 256 + b) * 256 + c) * 256 + d : Nat) : Int) := by
  have e1 : bits .or .u32 ((a : Int) * 16777216) ((b : Int) * 65536) = ((a * 16777216 + b * 65536 : Nat) : Int) := by
    rw [show ((a : Int) * 16777216) = ((a * 16777216 : Nat) : Int) by omega, show ((b : Int) * 65536) = ((b * 65536 : Nat) : Int) by omega, u32_or_nat _ _ (by omega) (by omega), show a * 16777216 = a * 2 ^ 24 by omega, nat_join 24 _ _ (by omega) (by omega)]
  have e2 : bits .or .u32 ((a * 16777216 + b * 65536 : Nat) : Int) ((c : Int) * 256) = ((a * 16777216 + b * 65536 + c * 256 : Nat) : Int) := by
    rw [show ((c : Int) * 256) = ((c * 256 : Nat) : Int) by omega, u32_or_nat _ _ (by omega) (by omega), show a * 16777216 + b * 65536 = (a * 256 + b) * 2 ^ 16 by omega, nat_join 16 _ _ (by omega) (by omega)]
  rw [e1, e2, u32_or_nat _ _ (by omega) (by omega), show a * 16777216 + b * 65536 + c * 256 = ((a * 256 + b) * 256 + c) * 2 ^ 8 by omega, nat_join 8 _ _ (by omega) (by omega)]
theorem four_any (w : World) {a : Option Addr} {n c : Nat} {xs : List UInt8} (hx : BS w a n c xs) (x0 x1 x2 x3 : UInt8) (r : List UInt8) (hxs : xs = x0 :: x1 :: x2 :: x3 :: r) :
    Calls Tryd.prog 99 #[.slice a n c] w fun e w' => e = .returned (.int .u32 ((be4 [x0, x1, x2, x3] : Nat) : Int)) ∧ ∃ m, w' = w.drewN m := by
  have hl := BS.len hx
  have hn : 4 ≤ n := by rw [← hl, hxs]; simp
  have hle := RS.le hx
  have hmx := RS.max hx
  unfold maxLen at hmx
  obtain ⟨b, o, rfl, hc⟩ := hx.at_ (by omega)
  have q0 := hc 0 x0 (by rw [hxs]; rfl)
  have q1 := hc 1 x1 (by rw [hxs]; rfl)
  have q2 := hc 2 x2 (by rw [hxs]; rfl)
  have q3 := hc 3 x3 (by rw [hxs]; rfl)
  have t0 := x0.toNat_lt
  have t1 := x1.toNat_lt
  have t2 := x2.toNat_lt
  have t3 := x3.toNat_lt
  rw [Nat.add_zero] at q0
  clear hc hx hxs hl
  go_enter Tryd.func99, Tryd.ntmps99
  go_wp2
  go_quiet (fail)
  go_wp2
  go_ret
  refine ⟨ret_u32 ?_, _, rfl⟩
  rw [or4 _ _ _ _ t0 t1 t2 t3]
  simp [be4]
end Go.Proofs.YtlncnjcbgfeaoaaDoor
