/- slices.Max of numbers. -/
import Derived.Test.YtokgpnkooigamaaDoorTD
set_option maxRecDepth 100000
set_option linter.unusedVariables false
namespace Go.Proofs.YtokgpnkooigamaaDoor
open Go.RowKit
theorem t64 : STy Tryd.prog 22 23 (.int .u64 0) 1 8 := ⟨Tryd.underlying22, by kernel_rfl, rfl, by decide⟩
/-- numbers as values -/
def US (xs : List Nat) : List Value := xs.map u64
theorem US_get {xs : List Nat} {i v : Nat} (h : xs[i]? = some v) : (US xs)[i]? = some (.int .u64 (v : Int)) := by simp [US, u64, h]
/-- the greatest of the first so many -/
def maxI (xs : List Nat) : Nat → Nat
  | 0 => 0
  | i + 1 => max (maxI xs i) (xs.getD i 0)
theorem maxI_one (xs : List Nat) : maxI xs 1 = xs.getD 0 0 := by simp [maxI]
set_option maxHeartbeats 4000000 in
theorem max_any (w : World) {a : Option Addr} {n c : Nat} {xs : List Nat} (hx : RS w 1 a n c (US xs)) (hn : 0 < n) (hn2 : n ≤ 1099511627776) :
    Calls Tryd.prog 55 #[.slice a n c] w fun e w' => e = .returned (.int .u64 (maxI xs n : Int)) ∧ w' = w := by
  have hl : xs.length = n := by have := hx.len; simpa [US] using this
  obtain ⟨v0, hv0⟩ : ∃ v, xs[0]? = some v := ⟨_, List.getElem?_eq_getElem (by omega)⟩
  have e0 : maxI xs 1 = v0 := by rw [maxI_one, List.getD_eq_getElem?_getD, hv0]; rfl
  have hgt : ¬ ((n : Int) < 1) := by omega
  have hi0 : (0 : Int) < (n : Int) := by omega
  have HX := Lib.hid hx
  have HV := Lib.hid hv0
  have Hl := Lib.hid hl
  have HS := Lib.hid (show ∃ i : Nat, 1 ≤ i ∧ i ≤ n ∧ Value.int .i64 (1 : Int) = .int .i64 (i : Int) ∧ Value.int .u64 (v0 : Int) = .int .u64 (maxI xs i : Int) ∧ w = w from ⟨1, Nat.le_refl _, hn, rfl, by rw [e0], rfl⟩)
  clear hx hv0 hl e0
  go_enter Tryd.func55, Tryd.ntmps55
  go_upto_region 5 with (refine L_index t64 HX.out _ _ rfl rfl .i64 _ rfl rfl (by omega) (by omega) _ (US_get HV.out) ?_; intro q hq)
  go_loopw [4, 3] (fun s4 s3 wr => ∃ i : Nat, 1 ≤ i ∧ i ≤ n ∧ s4 = .int .i64 (i : Int) ∧ s3 = .int .u64 (maxI xs i : Int) ∧ wr = w) (fun s4 _ _ => match s4 with | .int _ x => (n - x).toNat | _ => 0)
  case atStart =>
    obtain ⟨i, q1, q2, q3, q4, _⟩ := HS.out
    exact ⟨i, q1, q2, q3, q4, by first | rfl | trivial⟩
  case round =>
    clear HS
    obtain ⟨i, h1, hi, rfl, rfl, rfl⟩ := hrel
    by_cases hin : i = n
    · subst hin
      go_wp2
      go_ret
      exact ⟨rfl, rfl⟩
    · have hlt : i < n := by omega
      obtain ⟨v, hv⟩ : ∃ v, xs[i]? = some v := ⟨_, List.getElem?_eq_getElem (by rw [Hl.out]; exact hlt)⟩
      obtain ⟨m, hm⟩ : ∃ m, maxI xs i = m := ⟨_, rfl⟩
      obtain ⟨r, hr⟩ : ∃ r, max m v = r := ⟨_, rfl⟩
      have e1 : maxI xs (i + 1) = r := by rw [maxI, List.getD_eq_getElem?_getD, hv, hm]; exact hr
      have hmx : max (m : Int) (v : Int) = (r : Int) := by omega
      have hwr : IntKind.i64.wrap ((i : Int) + 1) = (i : Int) + 1 := IntWalk.i64_in _ (by omega)
      have HV2 := Lib.hid hv
      have HE := Lib.hid e1
      rw [hm]
      clear hv hm hr e1
      go_wp2_with (refine L_index t64 HX.out _ _ rfl rfl .i64 _ rfl rfl (by omega) (by omega) _ (by rw [Int.toNat_natCast]; exact US_get HV2.out) ?_; intro q hq)
      exact ⟨⟨i + 1, by omega, by omega, by simp, by rw [HE.out], by first | rfl | trivial⟩, by simp; omega⟩
def mx (x y : Int) : Int := if y > x then y else x
theorem mx_nat (a b : Nat) : mx (a : Int) (b : Int) = ((max a b : Nat) : Int) := by
  unfold mx
  split <;> omega
theorem max9i (W : World) (ts : Array TypeId) (t : TypeId) (a b c d e f g h i : Int) : (Builtin.max_ ts t #[.int .u64 a, .int .u64 b, .int .u64 c, .int .u64 d, .int .u64 e, .int .u64 f, .int .u64 g, .int .u64 h, .int .u64 i]).run Tryd.prog W = .ok (.int .u64 (mx (mx (mx (mx (mx (mx (mx (mx a b) c) d) e) f) g) h) i)) W := by
  unfold mx
  simp [Builtin.max_, Builtin.max2]
theorem max9 (W : World) (ts : Array TypeId) (t : TypeId) (a b c d e f g h i : Nat) : (Builtin.max_ ts t #[.int .u64 (a : Int), .int .u64 (b : Int), .int .u64 (c : Int), .int .u64 (d : Int), .int .u64 (e : Int), .int .u64 (f : Int), .int .u64 (g : Int), .int .u64 (h : Int), .int .u64 (i : Int)]).run Tryd.prog W = .ok (.int .u64 ((max (max (max (max (max (max (max (max a b) c) d) e) f) g) h) i : Nat) : Int)) W := by
  rw [max9i, mx_nat, mx_nat, mx_nat, mx_nat, mx_nat, mx_nat, mx_nat, mx_nat]
end Go.Proofs.YtokgpnkooigamaaDoor
