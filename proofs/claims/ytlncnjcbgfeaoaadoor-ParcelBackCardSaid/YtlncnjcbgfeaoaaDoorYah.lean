/- texts C6 C7 in one. -/
import Derived.Test.YtlncnjcbgfeaoaaDoorYae
import Derived.Deep.RegionWith

/- limbs: arrays of five long words; (*salt.limbs).carry. -/
set_option maxRecDepth 100000
set_option linter.unusedVariables false
namespace Go.Proofs.YtlncnjcbgfeaoaaDoor
open Go.RowKit
def UV (x : Nat) : Value := .int .u64 (x : Int)
/-- the block g is just the long words vs -/
def AL (w : World) (g : Nat) (t : TypeId) (vs : List Nat) : Prop := w.heap[g]? = some (.cells (vs.map UV).toArray t (0, 0))
section
variable {w w' : World} {g : Nat} {t : TypeId} {vs : List Nat}
theorem AL.lt (h : AL w g t vs) : g < w.heap.size := (Array.getElem?_eq_some_iff.1 h).1
theorem AL.cell (h : AL w g t vs) (i : Nat) (x : Nat) (hx : vs[i]? = some x) : w.cell? ⟨g, i, none⟩ = some (.int .u64 (x : Int)) := by
  unfold AL at h
  simp [World.cell?, h, hx, UV]
theorem AL.fr (h : AL w g t vs) (i : Nat) : w.frozen? ⟨g, i, none⟩ = false := by
  unfold AL at h
  simp [World.frozen?, h]
theorem AL.set_ (h : AL w g t vs) (i : Nat) (x : Nat) : AL (w.setCell ⟨g, i, none⟩ (.int .u64 (x : Int))) g t (vs.set i x) := by
  unfold AL at h ⊢
  simp [World.setCell, Array.getElem?_modify, h, UV]
theorem AL.grown {row : Option Nat} (h : AL w g t vs) (hg : w.grownBy w' row) (hb : some g ≠ row) : AL w' g t vs := by
  have := hg.block g h.lt hb
  unfold AL at h ⊢
  rw [this]; exact h
theorem AL.drew (h : AL w g t vs) : AL w.drew g t vs := h
theorem AL.drewN (h : AL w g t vs) (k : Nat) : AL (w.drewN k) g t vs := h
end
/-- one limb's carry -/
def cstep (h : List Nat) (i : Nat) : List Nat :=
  let c := h.getD i 0 / 67108864
  let h1 := h.set i (h.getD i 0 % 67108864)
  if i = 4 then h1.set 0 (h1.getD 0 0 + 5 * c) else h1.set (i + 1) (h1.getD (i + 1) 0 + c)
def cpass (h : List Nat) : Nat → List Nat
  | 0 => h
  | i + 1 => cstep (cpass h i) i
def cars (h : List Nat) : Nat → List Nat
  | 0 => h
  | r + 1 => cpass (cars h r) 5
theorem cstep_len (h : List Nat) (i : Nat) : (cstep h i).length = h.length := by
  unfold cstep; simp only; split <;> simp
/-- limbs that have room -/
structure LM (h : List Nat) (k : Nat) : Prop where
  len : h.length = 5
  le : ∀ x ∈ h, x ≤ 1152921504606846976 + 1099511627776 * k
theorem LM.get {h : List Nat} {k : Nat} (H : LM h k) (i : Nat) (hi : i < 5) : ∃ x, h[i]? = some x ∧ x ≤ 1152921504606846976 + 1099511627776 * k := by
  have hl := H.len
  exact ⟨h[i]'(by omega), List.getElem?_eq_getElem _, H.le _ (List.getElem_mem _)⟩
/-- what one step does, said of its two limbs -/
theorem cstep_lo {h : List Nat} {i a b : Nat} (hi : i < 4) (hl : h.length = 5) (ea : h[i]? = some a) (eb : h[i + 1]? = some b) : cstep h i = (h.set i (a % 67108864)).set (i + 1) (b + a / 67108864) := by
  unfold cstep
  simp only [List.getD_eq_getElem?_getD, ea, Option.getD_some]
  rw [if_neg (by omega), List.getElem?_set_ne (by omega), eb]; rfl
theorem cstep_hi {h : List Nat} {a b : Nat} (hl : h.length = 5) (ea : h[4]? = some a) (eb : h[0]? = some b) : cstep h 4 = (h.set 4 (a % 67108864)).set 0 (b + 5 * (a / 67108864)) := by
  unfold cstep
  simp only [List.getD_eq_getElem?_getD, ea, Option.getD_some]
  rw [if_pos trivial, List.getElem?_set_ne (by omega), eb]; rfl
theorem LM.step {h : List Nat} {k : Nat} (H : LM h k) (hk : k ≤ 100) (i : Nat) (hi : i < 5) : LM (cstep h i) (k + 1) := by
  refine ⟨by rw [cstep_len, H.len], ?_⟩
  obtain ⟨a, ea, la⟩ := H.get i hi
  rcases Nat.lt_or_ge i 4 with h4 | h4
  · obtain ⟨b, eb, lb⟩ := H.get (i + 1) (by omega)
    rw [cstep_lo h4 H.len ea eb]
    intro x hx
    rcases List.mem_or_eq_of_mem_set hx with hx | rfl
    · rcases List.mem_or_eq_of_mem_set hx with hx | rfl
      · have := H.le x hx; omega
      · omega
    · omega
  · obtain rfl : i = 4 := by omega
    obtain ⟨b, eb, lb⟩ := H.get 0 (by omega)
    rw [cstep_hi H.len ea eb]
    intro x hx
    rcases List.mem_or_eq_of_mem_set hx with hx | rfl
    · rcases List.mem_or_eq_of_mem_set hx with hx | rfl
      · have := H.le x hx; omega
      · omega
    · omega
theorem LM.pass {h : List Nat} {k : Nat} (H : LM h k) (i : Nat) (hi : i ≤ 5) (hk : k + 5 ≤ 100) : LM (cpass h i) (k + i) := by
  induction i with
  | zero => exact H
  | succ i ih => exact (ih (by omega)).step (by omega) i (by omega)
theorem LM.cars {h : List Nat} (H : LM h 0) (r : Nat) (hr : r ≤ 10) : LM (cars h r) (5 * r) := by
  induction r with
  | zero => exact H
  | succ r ih => exact (ih (by omega)).pass 5 (by omega) (by omega)
/-- equations out of the walk's sight -/
structure EN (a b : List Nat) : Prop where
  h : a = b
end Go.Proofs.YtlncnjcbgfeaoaaDoor

/- (*salt.limbs).carry. -/
set_option maxRecDepth 100000
set_option linter.unusedVariables false
namespace Go.Proofs.YtlncnjcbgfeaoaaDoor
open Go.RowKit
theorem u64_low26 (a : Nat) (ha : a < 18446744073709551616) : bits .and .u64 (a : Int) 67108863 = ((a % 67108864 : Nat) : Int) := by
  have h := u64_and_nat a 67108863 ha (by decide)
  rw [show (67108863 : Nat) = 2 ^ 26 - 1 by rfl, Nat.and_two_pow_sub_one_eq_mod] at h
  exact h
set_option maxHeartbeats 4000000 in
theorem carry_any (w : World) {g : Nat} {t : TypeId} {h0 : List Nat} (hA : AL w g t h0) (hM : LM h0 0) :
    Calls Tryd.prog 93 #[.pointer (some ⟨g, 0, none⟩)] w fun e w' => e = .returned (.tuple #[]) ∧ AL w' g t (cars h0 2) ∧ w.grownBy w' (some g) := by
  have HA0 := Lib.hid hA
  have HM := Lib.hid hM
  clear hA hM
  go_enter Tryd.func93, Tryd.ntmps93
  go_wp2
  go_loopw [4] (fun s4 wr => ∃ r : Nat, r ≤ 2 ∧ s4 = .int .i64 (r : Int) ∧ AL wr g t (cars h0 r) ∧ w.grownBy wr (some g)) (fun s4 _ => 2 - (intOf s4).toNat)
  case atStart => exact ⟨0, by omega, rfl, HA0.out, World.grownBy.refl w _⟩
  case round =>
    obtain ⟨r, hr, rfl, hX, hg⟩ := hrel
    clear HA0
    by_cases hlt : r < 2
    · have hm := HM.out.cars r (by omega)
      obtain ⟨X, hXe⟩ : ∃ X, cars h0 r = X := ⟨_, rfl⟩
      rw [hXe] at hX hm
      have HNX : EN (cars h0 (r + 1)) (cpass X 5) := ⟨by rw [← hXe]; rfl⟩
      have HMX := Lib.hid hm
      have HX := Lib.hid hX
      have HG := Lib.hid hg
      clear hXe hm hX hg
      go_wp2
      rw [show decide ((r : Int) < 2) = true from decide_eq_true (by omega)]
      go_loopw [6] (fun s6 wr => ∃ i : Nat, i ≤ 5 ∧ s6 = .int .i64 (i : Int) ∧ AL wr g t (cpass X i) ∧ w.grownBy wr (some g)) (fun s6 _ => 5 - (intOf s6).toNat)
      case atStart => exact ⟨0, by omega, rfl, HX.out, HG.out⟩
      case round =>
        obtain ⟨i, hi, rfl, hQ, hgq⟩ := hrel
        by_cases hlt5 : i < 5
        · have hmi := HMX.out.pass i hi (by omega)
          obtain ⟨Y, hY⟩ : ∃ Y, cpass X i = Y := ⟨_, rfl⟩
          have hstep : EN (cpass X (i + 1)) (cstep Y i) := ⟨by rw [← hY]; rfl⟩
          rw [hY] at hQ hmi
          obtain ⟨a, ea, la⟩ := hmi.get i hlt5
          have hlow := u64_low26 a (by omega)
          have q0 := hQ.cell i a ea
          have f0 := hQ.fr i
          have hq1 := hQ.set_ i (a % 67108864)
          have hgq1 := grown_set hgq i (.int .u64 ((a % 67108864 : Nat) : Int))
          have hval : ((a % 67108864 : Nat) : Int) = (a : Int) % 67108864 := by omega
          rw [hval] at hq1 hgq1
          have HQ1 := Lib.hid hq1.drew
          have HG1 := Lib.hid (grown_drew hgq1)
          have hL5 := hmi.len
          have Hea := Lib.hid ea
          clear hval hY hQ hgq hq1 hgq1
          rcases Nat.lt_or_ge i 4 with hi4 | hi4
          · obtain ⟨b, eb, lb⟩ := hmi.get (i + 1) (by omega)
            have hne : ((i : Int) == 4) = false := by simp; omega
            have hlo := cstep_lo hi4 hL5 ea eb
            have Hlo := Lib.hid hlo
            have eb' : (Y.set i (a % 67108864))[i + 1]? = some b := by rw [List.getElem?_set_ne (by omega)]; exact eb
            have q1 := HQ1.out.cell (i + 1) b eb'
            have f1 := HQ1.out.fr (i + 1)
            clear hlo eb eb' ea hmi
            go_upto_region 6 with (fail)
            go_region
            clear q0 f0 hlow
            generalize World.drew _ = W8 at *
            have hv2 : (((b + a / 67108864 : Nat)) : Int) = (b : Int) + (a : Int) / 67108864 := by omega
            have hq2 := HQ1.out.set_ (i + 1) (b + a / 67108864)
            have hg2 := grown_set HG1.out (i + 1) (.int .u64 ((b + a / 67108864 : Nat) : Int))
            rw [← Hlo.out, ← hstep.h, hv2] at hq2
            rw [hv2] at hg2
            have HQ2 := Lib.hid hq2.drew
            have HG2 := Lib.hid (grown_drew hg2)
            clear hq2 hg2 hv2 HQ1 HG1
            go_upto_region 9 with (fail)
            go_region
            clear q1 f1 hne
            generalize World.drew _ = W9 at *
            go_wp2
            go_roundw
            case rel => exact ⟨i + 1, by omega, by go_num, HQ2.out, HG2.out⟩
            case measure => simp [intOf]; omega
          · obtain rfl : i = 4 := by omega
            obtain ⟨b, eb, lb⟩ := hmi.get 0 (by omega)
            have hlo := cstep_hi hL5 ea eb
            have Hlo := Lib.hid hlo
            have eb' : (Y.set 4 (a % 67108864))[0]? = some b := by rw [List.getElem?_set_ne (by omega)]; exact eb
            have q1 := HQ1.out.cell 0 b eb'
            have f1 := HQ1.out.fr 0
            clear hlo eb eb' ea hmi
            rw [show ((4 : Nat) : Int) = 4 from rfl]
            go_upto_region 6 with (fail)
            go_region
            clear q0 f0 hlow
            generalize World.drew _ = W8 at *
            have hv2 : (((b + 5 * (a / 67108864) : Nat)) : Int) = (b : Int) + 5 * ((a : Int) / 67108864) := by omega
            have hq2 := HQ1.out.set_ 0 (b + 5 * (a / 67108864))
            have hg2 := grown_set HG1.out 0 (.int .u64 ((b + 5 * (a / 67108864) : Nat) : Int))
            rw [← Hlo.out, ← hstep.h, hv2] at hq2
            rw [hv2] at hg2
            have HQ2 := Lib.hid hq2.drew
            have HG2 := Lib.hid (grown_drew hg2)
            clear hq2 hg2 hv2 HQ1 HG1
            go_upto_region 8 with (fail)
            go_region
            clear q1 f1
            generalize World.drew _ = W9 at *
            go_wp2
            go_roundw
            case rel => exact ⟨4 + 1, by omega, by go_num, HQ2.out, HG2.out⟩
            case measure => simp [intOf]
        · obtain rfl : i = 5 := by omega
          rw [show ((5 : Nat) : Int) = 5 from rfl]
          rw [← HNX.h] at hQ
          have hT := hQ
          obtain ⟨T, hTe⟩ : ∃ T, cars h0 (r + 1) = T := ⟨_, rfl⟩
          have HTe : EN (cars h0 (r + 1)) T := ⟨hTe⟩
          rw [hTe] at hT
          have HT := Lib.hid hT
          have HGq := Lib.hid hgq
          clear hQ hT hTe hgq HX HG
          go_wp2
          go_roundw
          case rel => exact ⟨r + 1, by omega, by go_num, by rw [HTe.h]; exact HT.out, HGq.out⟩
          case measure => simp [intOf]; omega
    · obtain rfl : r = 2 := by omega
      have HX := Lib.hid hX
      have HG := Lib.hid hg
      clear hX hg
      go_wp2
      go_end0
      exact ⟨rfl, HX.out, HG.out⟩
end Go.Proofs.YtlncnjcbgfeaoaaDoor
