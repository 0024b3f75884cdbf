/- rows of numbers; the reference's carry. -/
import Derived.Test.YtlncnjcbgfeaoaaD2
import Derived.Test.YtlncnjcbgfeaoaaM6
import Derived.Test.YtlncnjcbgfeaoaaR2
set_option maxRecDepth 100000
set_option linter.unusedVariables false
namespace Go.Proofs.Ytlncnjcbgfeaoaa
open Go.RowKit
def IV (x : Nat) : Value := .int .i64 (x : Int)
theorem tI : STy Try.prog 57 3 (.int .i64 0) 1 8 := ⟨Try.underlying57, by kernel_rfl, rfl, by decide⟩
abbrev IS (w : World) (a : Option Addr) (n c : Nat) (l : List Nat) : Prop := RS w 1 a n c (l.map IV)
theorem IS.len {w : World} {a : Option Addr} {n c : Nat} {l : List Nat} (h : IS w a n c l) : l.length = n := by have := RS.len h; simpa using this
theorem RS.at_ {w : World} {a : Option Addr} {n c : Nat} {vs : List Value} (h : RS w 1 a n c vs) (hn : 0 < n) : ∃ b o, a = some ⟨b, o, none⟩ ∧ ∀ j x, vs[j]? = some x → w.cell? ⟨b, o + j, none⟩ = some x := by
  cases a with
  | none => have := (RS.nil_inv h).1; omega
  | some ad =>
    obtain ⟨h1, h2⟩ := h.2.2.2.2.2 ad rfl
    have hs := h1 (Nat.lt_of_lt_of_le hn (RS.le h))
    refine ⟨ad.block, ad.off, by cases ad; simp_all, fun j x hx => h2 j x hx⟩
theorem iv_get {l : List Nat} {i x : Nat} (h : l[i]? = some x) : (l.map IV)[i]? = some (.int .i64 (x : Int)) := by rw [List.getElem?_map, h]; rfl
theorem one_IV (l : List Nat) : ∀ v ∈ l.map IV, v.oneCell' = true := by
  intro v hv; obtain ⟨b, _, rfl⟩ := List.mem_map.1 hv; rfl
structure EN' (a b : List Nat) : Prop where
  h : a = b
set_option maxHeartbeats 2000000 in
theorem rcarry_any (w : World) {a : Option Addr} {n c : Nat} {l : List Nat} (hx : IS w a n c l) (N : Nat) (hN : N ≤ 1000) (hle : ∀ x ∈ l, x ≤ 255 * 1099511627776) :
    Calls Try.prog 28 #[.slice a n c, .int .i64 (N : Int)] w fun e w' => e = .returned (.slice (some ⟨w.heap.size, 0, none⟩) N N) ∧ OW w' w.heap.size 3 1 (some ⟨w.heap.size, 0, none⟩) N N ((digs (valD l) N).map IV) ∧ Below w.heap.size w w' := by
  have hln := IS.len hx
  have HX := Lib.hid hx
  have Hle := Lib.hid hle
  have Hres := EN'.mk (carO_all l N)
  clear hx hle
  go_enter Try.func28, Try.ntmps28
  go_upto_region 2 with (refine L_make tI w.heap.size N rfl rfl _ _ rfl rfl _ _ _ _ rfl rfl (by omega) (by omega) (by omega) (by unfold maxLen; omega) (Nat.le_refl _) ?_; intro w1 o1 g1)
  have o1' : OW w1 w.heap.size 3 1 (some ⟨w.heap.size, 0, none⟩) N N ((carO l N 0).map IV) := by rw [carO_zero, List.map_replicate]; exact o1
  have b1 := below_none (Below.refl _ w) g1 (Nat.le_refl _)
  clear o1 g1
  go_wp2
  go_loopw [6, 12] (fun s6 s12 wr => ∃ i : Nat, i ≤ N ∧ s12 = .int .i64 (i : Int) ∧ s6 = .int .i64 ((cK l i : Nat) : Int) ∧ OW wr w.heap.size 3 1 (some ⟨w.heap.size, 0, none⟩) N N ((carO l N i).map IV) ∧ Below w.heap.size w wr) (fun _ s12 _ => N - (intOf s12).toNat)
  case atStart => exact ⟨0, by omega, rfl, rfl, o1', b1⟩
  case round =>
    obtain ⟨i, hi, rfl, rfl, ho, hb⟩ := hrel
    clear o1' b1
    by_cases hlt : i < N
    · have hk := cK_le (m := 1099511627776) Hle.out i
      obtain ⟨y, hy⟩ : ∃ y, (carO l N i)[i]? = some y := ⟨_, List.getElem?_eq_getElem (by rw [carO_len]; exact hlt)⟩
      have q := ho.cell i _ (iv_get hy)
      have f := ho.frozen i
      have h2 := ho.setCell i (IV ((cK l i + l.getD i 0) % 256)) rfl
      rw [← List.map_set, carO_set l N i hlt] at h2
      have hb2 := hb.grown (grownBy_setCell wr ⟨w.heap.size, i, none⟩ (IV ((cK l i + l.getD i 0) % 256))) hb.size (fun k hk => by cases hk; exact Nat.le_refl _)
      have hnx : cK l (i + 1) = (cK l i + l.getD i 0) / 256 := rfl
      obtain ⟨C, hC⟩ : ∃ C, cK l i = C := ⟨_, rfl⟩
      obtain ⟨C2, hC2⟩ : ∃ C2, cK l (i + 1) = C2 := ⟨_, rfl⟩
      have hG := hb.size
      rw [hC, hC2] at hnx
      rw [hC] at h2 hb2 hk ⊢
      have HC2 := Lib.hid hC2
      by_cases hin : i < n
      · obtain ⟨x, ex⟩ : ∃ x, l[i]? = some x := ⟨_, List.getElem?_eq_getElem (by omega)⟩
        have hxle := Hle.out x (List.mem_of_getElem? ex)
        have gx : l.getD i 0 = x := by rw [List.getD_eq_getElem?_getD, ex]; rfl
        have hx1 := RS.below HX.out hb (Nat.le_refl _)
        obtain ⟨bb, oo, rfl, hcell⟩ := RS.at_ hx1 (by omega)
        have qx := hcell i _ (iv_get ex)
        have hmx := RS.max hx1
        have hlc := RS.le hx1
        unfold maxLen at hmx
        rw [gx] at h2 hb2 hnx
        have hv : IV ((C + x) % 256) = .int .i64 (((C : Int) + (x : Int)) % 256) := by unfold IV; congr 1
        have hv2 : ((C : Int) + (x : Int)) / 256 = (C2 : Int) := by omega
        rw [hv] at h2 hb2
        have H2 := Lib.hid h2
        have HB2 := Lib.hid hb2
        clear hy ho hb h2 hb2 hC hC2 hx1 hcell ex gx hv hnx
        have HV2 := Lib.hid hv2
        clear hv2
        go_wp2
        go_roundw
        case rel => exact ⟨i + 1, by omega, by go_num, by rw [HC2.out, ← HV2.out], H2.out, HB2.out⟩
        case measure => simp [intOf]; omega
      · have gx : l.getD i 0 = 0 := by rw [List.getD_eq_getElem?_getD, List.getElem?_eq_none (by omega)]; rfl
        rw [gx, Nat.add_zero] at h2 hb2 hnx
        have hv : IV (C % 256) = .int .i64 ((C : Int) % 256) := by unfold IV; congr 1
        have hv2 : (C : Int) / 256 = (C2 : Int) := by omega
        rw [hv] at h2 hb2
        have H2 := Lib.hid h2
        have HB2 := Lib.hid hb2
        clear hy ho hb h2 hb2 hC hC2 gx hv hnx
        have HV2 := Lib.hid hv2
        clear hv2
        go_wp2
        go_roundw
        case rel => exact ⟨i + 1, by omega, by go_num, by rw [HC2.out, ← HV2.out], H2.out, HB2.out⟩
        case measure => simp [intOf]; omega
    · obtain rfl : i = N := by omega
      rw [Hres.h] at ho
      have HO := Lib.hid ho
      have HB := Lib.hid hb
      clear ho hb
      go_wp2
      go_ret
      exact ⟨rfl, HO.out, HB.out⟩
end Go.Proofs.Ytlncnjcbgfeaoaa
