/- salt.limbs.times. -/
import Derived.Test.YtlncnjcbgfeaoaaC8
import Derived.Deep.QuietTactic
import Derived.BigQuiet
set_option maxRecDepth 100000
set_option linter.unusedVariables false
namespace Go.Proofs.Ytlncnjcbgfeaoaa
open Go.RowKit
/-- one product added; a row of them; rows of them -/
def tstep (h r out : List Nat) (i k : Nat) : List Nat :=
  let x := h.getD i 0 * r.getD k 0
  if i + k < 5 then out.set (i + k) (out.getD (i + k) 0 + x) else out.set (i + k - 5) (out.getD (i + k - 5) 0 + 5 * x)
def trow (h r out : List Nat) (i : Nat) : Nat → List Nat
  | 0 => out
  | k + 1 => tstep h r (trow h r out i k) i k
def tmul (h r : List Nat) : Nat → List Nat
  | 0 => [0, 0, 0, 0, 0]
  | i + 1 => trow h r (tmul h r i) i 5
/-- limbs of a product while they grow: so many steps -/
structure LT (out : List Nat) (s : Nat) : Prop where
  len : out.length = 5
  le : ∀ x ∈ out, x ≤ 22518008874272000 * s
theorem LT.get {h : List Nat} {k : Nat} (H : LT h k) (i : Nat) (hi : i < 5) : ∃ x, h[i]? = some x ∧ x ≤ 22518008874272000 * k := by
  have hl := H.len
  exact ⟨h[i]'(by omega), List.getElem?_eq_getElem _, H.le _ (List.getElem_mem _)⟩
/-- factors -/
structure LF (h : List Nat) : Prop where
  len : h.length = 5
  le : ∀ x ∈ h, x ≤ 67108880
theorem LF.get {h : List Nat} (H : LF h) (i : Nat) (hi : i < 5) : ∃ x, h[i]? = some x ∧ x ≤ 67108880 := by
  have hl := H.len
  exact ⟨h[i]'(by omega), List.getElem?_eq_getElem _, H.le _ (List.getElem_mem _)⟩
theorem tstep_lo {h r out : List Nat} {i k a b c : Nat} (hik : i + k < 5) (ea : h[i]? = some a) (eb : r[k]? = some b) (ec : out[i + k]? = some c) : tstep h r out i k = out.set (i + k) (c + a * b) := by
  unfold tstep; simp only [List.getD_eq_getElem?_getD, ea, eb, ec, Option.getD_some]; rw [if_pos hik]
theorem tstep_hi {h r out : List Nat} {i k a b c : Nat} (hik : 5 ≤ i + k) (ea : h[i]? = some a) (eb : r[k]? = some b) (ec : out[i + k - 5]? = some c) : tstep h r out i k = out.set (i + k - 5) (c + 5 * (a * b)) := by
  unfold tstep; simp only [List.getD_eq_getElem?_getD, ea, eb, ec, Option.getD_some]; rw [if_neg (by omega)]
theorem mul_le26 {a b : Nat} (ha : a ≤ 67108880) (hb : b ≤ 67108880) : a * b ≤ 4503601774854400 := Nat.mul_le_mul ha hb
theorem LT.step {h r out : List Nat} {s : Nat} (H : LT out s) (Hh : LF h) (Hr : LF r) (i k : Nat) (hi : i < 5) (hk : k < 5) : LT (tstep h r out i k) (s + 1) := by
  obtain ⟨a, ea, la⟩ := Hh.get i hi
  obtain ⟨b, eb, lb⟩ := Hr.get k hk
  have hm := mul_le26 la lb
  rcases Nat.lt_or_ge (i + k) 5 with h5 | h5
  · obtain ⟨c, ec, lc⟩ := H.get (i + k) h5
    rw [tstep_lo h5 ea eb ec]
    refine ⟨by rw [List.length_set, H.len], fun x hx => ?_⟩
    rcases List.mem_or_eq_of_mem_set hx with hx | rfl
    · have := H.le x hx; omega
    · omega
  · obtain ⟨c, ec, lc⟩ := H.get (i + k - 5) (by omega)
    rw [tstep_hi h5 ea eb ec]
    refine ⟨by rw [List.length_set, H.len], fun x hx => ?_⟩
    rcases List.mem_or_eq_of_mem_set hx with hx | rfl
    · have := H.le x hx; omega
    · omega
theorem LT.row {h r out : List Nat} {s : Nat} (H : LT out s) (Hh : LF h) (Hr : LF r) (i : Nat) (hi : i < 5) (k : Nat) (hk : k ≤ 5) : LT (trow h r out i k) (s + k) := by
  induction k with
  | zero => exact H
  | succ k ih => exact (ih (by omega)).step Hh Hr i k hi (by omega)
theorem LT.mul {h r : List Nat} (Hh : LF h) (Hr : LF r) (i : Nat) (hi : i ≤ 5) : LT (tmul h r i) (5 * i) := by
  induction i with
  | zero => exact ⟨rfl, fun x hx => by simp [tmul] at hx; omega⟩
  | succ i ih => exact (ih (by omega)).row Hh Hr i (by omega) 5 (by omega)
theorem LT.room {out : List Nat} (H : LT out 25) : LM out 0 := ⟨H.len, fun x hx => by have := H.le x hx; omega⟩
theorem AL_box (w : World) (t : TypeId) (xs : List Nat) : AL (w.alloc (.cells (xs.map UV).toArray t)) w.heap.size t xs := heap_alloc_new w _
set_option maxHeartbeats 4000000 in
theorem times_any (w : World) {h r : List Nat} (Hh : LF h) (Hr : LF r) :
    Calls Try.prog 25 #[.agg (h.map UV).toArray, .agg (r.map UV).toArray] w fun e w' => e = .returned (.agg ((cars (tmul h r 5) 2).map UV).toArray) ∧ Below w.heap.size w w' := by
  have hz1 : (w.alloc (.cells (h.map UV).toArray 52)).heap.size = w.heap.size + 1 := by simp
  have hz2 : ((w.alloc (.cells (h.map UV).toArray 52)).alloc (.cells (r.map UV).toArray 52)).heap.size = w.heap.size + 1 + 1 := by simp
  have hz3 : (((w.alloc (.cells (h.map UV).toArray 52)).alloc (.cells (r.map UV).toArray 52)).alloc (.cells #[.int .u64 0, .int .u64 0, .int .u64 0, .int .u64 0, .int .u64 0] 52)).heap.size = w.heap.size + 1 + 1 + 1 := by simp
  have hA := (((AL_box w 52 h).al (.cells (r.map UV).toArray 52)).al (.cells #[.int .u64 0, .int .u64 0, .int .u64 0, .int .u64 0, .int .u64 0] 52)).al (.cells #[.int .u64 0, .int .u64 0, .int .u64 0, .int .u64 0, .int .u64 0] 52)
  have hC := ((AL_box (w.alloc (.cells (h.map UV).toArray 52)) 52 r).al (.cells #[.int .u64 0, .int .u64 0, .int .u64 0, .int .u64 0, .int .u64 0] 52)).al (.cells #[.int .u64 0, .int .u64 0, .int .u64 0, .int .u64 0, .int .u64 0] 52)
  have hR := AL.al (show AL (((w.alloc (.cells (h.map UV).toArray 52)).alloc (.cells (r.map UV).toArray 52)).alloc (.cells #[.int .u64 0, .int .u64 0, .int .u64 0, .int .u64 0, .int .u64 0] 52)) _ 52 [0, 0, 0, 0, 0] from heap_alloc_new _ _) (.cells #[.int .u64 0, .int .u64 0, .int .u64 0, .int .u64 0, .int .u64 0] 52)
  have hO : AL ((((w.alloc (.cells (h.map UV).toArray 52)).alloc (.cells (r.map UV).toArray 52)).alloc (.cells #[.int .u64 0, .int .u64 0, .int .u64 0, .int .u64 0, .int .u64 0] 52)).alloc (.cells #[.int .u64 0, .int .u64 0, .int .u64 0, .int .u64 0, .int .u64 0] 52)) _ 52 (tmul h r 0) := heap_alloc_new _ _
  have hb : Below w.heap.size w _ := (((below_alloc w (.cells (h.map UV).toArray 52)).alloc (by simp) (.cells (r.map UV).toArray 52)).alloc (by simp; omega) (.cells #[.int .u64 0, .int .u64 0, .int .u64 0, .int .u64 0, .int .u64 0] 52)).alloc (by simp; omega) (.cells #[.int .u64 0, .int .u64 0, .int .u64 0, .int .u64 0, .int .u64 0] 52)
  rw [hz1] at hC
  rw [hz2] at hR
  rw [hz3] at hO
  clear hz1 hz2 hz3
  go_enter Try.func25, Try.ntmps25
  go_upto_region 2 with (fail)
  generalize (World.alloc _ _) = W1 at *
  obtain ⟨g5, hg5⟩ : ∃ g5, w.heap.size + 1 + 1 + 1 = g5 := ⟨_, rfl⟩
  rw [hg5] at hO ⊢
  have l5 := hO.lt
  have HA := Lib.hid hA
  have HC := Lib.hid hC
  have HR := Lib.hid hR
  have HB := Lib.hid hb
  clear hA hC hR hb
  go_wp2
  go_loopw [9] (fun s9 wr => ∃ i : Nat, i ≤ 5 ∧ s9 = .int .i64 (i : Int) ∧ AL wr g5 52 (tmul h r i) ∧ W1.grownBy wr (some g5)) (fun s9 _ => 5 - (intOf s9).toNat)
  case atStart => exact ⟨0, by omega, rfl, hO, World.grownBy.refl W1 _⟩
  case round =>
    obtain ⟨i, hi, rfl, hX, hg⟩ := hrel
    clear hO
    by_cases hlt : i < 5
    · have hlt0 := LT.mul Hh Hr i hi
      obtain ⟨X, hXe⟩ : ∃ X, tmul h r i = X := ⟨_, rfl⟩
      rw [hXe] at hX hlt0
      have HNX : EN (tmul h r (i + 1)) (trow h r X i 5) := ⟨by rw [← hXe]; rfl⟩
      have HX := Lib.hid hX
      have HG := Lib.hid hg
      have HL := Lib.hid hlt0
      clear hXe hX hg hlt0
      go_wp2
      rw [show decide ((i : Int) < 5) = true from decide_eq_true (by omega)]
      go_loopw [12] (fun s12 wr => ∃ k : Nat, k ≤ 5 ∧ s12 = .int .i64 (k : Int) ∧ AL wr g5 52 (trow h r X i k) ∧ W1.grownBy wr (some g5)) (fun s12 _ => 5 - (intOf s12).toNat)
      case atStart => exact ⟨0, by omega, rfl, HX.out, HG.out⟩
      case round =>
        obtain ⟨k, hk, rfl, hQ, hgq⟩ := hrel
        by_cases hlt5 : k < 5
        · have hL := LT.row HL.out Hh Hr i hlt k hk
          obtain ⟨Y, hY⟩ : ∃ Y, trow h r X i k = Y := ⟨_, rfl⟩
          have hstep : EN (trow h r X i (k + 1)) (tstep h r Y i k) := ⟨by rw [← hY]; rfl⟩
          rw [hY] at hQ hL
          obtain ⟨a, ea, la⟩ := Hh.get i hlt
          obtain ⟨b, eb, lb⟩ := Hr.get k hlt5
          have hm := mul_le26 la lb
          have q1 := (HA.out.grown hgq (by simp; omega)).cell i a ea
          have q2 := (HC.out.grown hgq (by simp; omega)).cell k b eb
          obtain ⟨v, hv⟩ : ∃ v, a * b = v := ⟨_, rfl⟩
          have hvi : (a : Int) * (b : Int) = (v : Int) := by rw [← hv]; simp
          rw [hv] at hm
          have hwr : IntKind.u64.wrap (v : Int) = (v : Int) := IntWalk.u64_in _ (by omega)
          rcases Nat.lt_or_ge (i + k) 5 with h5 | h5
          · obtain ⟨c, ec, lc⟩ := hL.get (i + k) h5
            have hst := tstep_lo h5 ea eb ec
            rw [hv] at hst
            obtain ⟨m, hme⟩ : ∃ m, i + k = m := ⟨_, rfl⟩
            rw [hme] at hst ec h5
            have hmi : (i : Int) + (k : Int) = (m : Int) := by omega
            have q3 := hQ.drew.cell m c ec
            have f3 := hQ.drew.fr m
            have hv2 : ((c + v : Nat) : Int) = (c : Int) + (v : Int) := by omega
            have hq2 := hQ.drew.set_ m (c + v)
            have hg2 := grown_set (grown_drew hgq) m (.int .u64 ((c + v : Nat) : Int))
            rw [← hst, ← hstep.h, hv2] at hq2
            rw [hv2] at hg2
            have HQ2 := Lib.hid hq2
            have HG2 := Lib.hid hg2
            clear hst hq2 hg2 hv2 hY hQ hgq ea eb ec hv hme
            go_upto_region 8 with (fail)
            go_region
            clear q1 q2 hvi hwr
            generalize World.drew _ = W8 at *
            go_wp2
            go_roundw
            case rel => exact ⟨k + 1, by omega, by go_num, HQ2.out, HG2.out⟩
            case measure => simp [intOf]; omega
          · obtain ⟨c, ec, lc⟩ := hL.get (i + k - 5) (by omega)
            have hst := tstep_hi h5 ea eb ec
            rw [hv] at hst
            obtain ⟨m, hme⟩ : ∃ m, i + k - 5 = m := ⟨_, rfl⟩
            rw [hme] at hst ec
            have hm5 : m < 5 := by omega
            have hmi : (i : Int) + (k : Int) = (m : Int) + 5 := by omega
            have q3 := hQ.drew.cell m c ec
            have f3 := hQ.drew.fr m
            have hv2 : ((c + 5 * v : Nat) : Int) = (c : Int) + 5 * (v : Int) := by omega
            have hq2 := hQ.drew.set_ m (c + 5 * v)
            have hg2 := grown_set (grown_drew hgq) m (.int .u64 ((c + 5 * v : Nat) : Int))
            rw [← hst, ← hstep.h, hv2] at hq2
            rw [hv2] at hg2
            have HQ2 := Lib.hid hq2
            have HG2 := Lib.hid hg2
            clear hst hq2 hg2 hv2 hY hQ hgq ea eb ec hv hme
            go_upto_region 8 with (fail)
            go_region
            clear q1 q2 hvi hwr
            generalize World.drew _ = W8 at *
            go_wp2
            go_roundw
            case rel => exact ⟨k + 1, by omega, by go_num, HQ2.out, HG2.out⟩
            case measure => simp [intOf]; omega
        · obtain rfl : k = 5 := by omega
          rw [show ((5 : Nat) : Int) = 5 from rfl]
          obtain ⟨T, hT⟩ : ∃ T, trow h r X i 5 = T := ⟨_, rfl⟩
          rw [hT] at hQ
          have HT : EN (tmul h r (i + 1)) T := ⟨by rw [HNX.h]; exact hT⟩
          have HQ := Lib.hid hQ
          have HGq := Lib.hid hgq
          clear hT hQ hgq HX HG
          go_wp2
          go_roundw
          case rel => exact ⟨i + 1, by omega, by go_num, by rw [HT.h]; exact HQ.out, HGq.out⟩
          case measure => simp [intOf]; omega
    · obtain rfl : i = 5 := by omega
      rw [show ((5 : Nat) : Int) = 5 from rfl]
      have hroom := (LT.mul Hh Hr 5 (Nat.le_refl _)).room
      obtain ⟨T, hT⟩ : ∃ T, tmul h r 5 = T := ⟨_, rfl⟩
      rw [hT] at hX hroom
      have hcl := (hroom.cars 2 (by omega)).len
      obtain ⟨R, hRe⟩ : ∃ R, cars T 2 = R := ⟨_, rfl⟩
      have HTR : EN (cars (tmul h r 5) 2) R := ⟨by rw [hT]; exact hRe⟩
      rw [hRe] at hcl
      have hcar := carry_any wr hX hroom
      rw [hRe] at hcar
      have Hcar := Lib.hid hcar
      have hT5 : (Try.prog.info? 52).map (·.size) = some (R.map UV).length := by rw [List.length_map, hcl]; exact iL
      have H5 := Lib.hid hT5
      have hi2 := Lib.hid (show (Try.prog.info? 52).map (·.size) = some (R.map UV).toArray.size by rw [List.size_toArray]; exact hT5)
      have HG := Lib.hid hg
      have hgs := hg.size
      clear hT hX hroom hRe hcar hT5 hg
      go_upto_region 15 with (go_at_call 24; refine Hcar.out.mono ?_; rintro e w' ⟨rfl, hR2, hgr2⟩)
      have hr := hR2.rng
      have hG2 := grown_trans HG.out hgr2
      have hR5 := HR.out.grown hG2 (by simp; omega)
      have hb8 := HB.out.grown hG2 HB.out.size (fun k hk => by cases hk; omega)
      have HB8 := Lib.hid hb8
      clear hR2 hgr2 hG2 hb8 Hcar
      go_wp2_with (first
        | (refine wpList_load_mid rfl _ _ rfl _ _ rfl (R.map UV) _ hr Try.underlying52 rfl H5.out ?_)
        | (refine L_storeL rfl _ _ _ rfl R rfl rfl hR5 iL (by simp) hcl ?_; intro w9 hO9 hg9))
      refine bodyPost_ret_by (results_cell_row rfl _ _ _ _ _ _ _ rfl hO9 Try.underlying52 rfl hi2.out) rfl ⟨by rw [HTR.h], ?_⟩
      exact HB8.out.grown hg9 HB8.out.size (fun k hk => by cases hk; omega)
end Go.Proofs.Ytlncnjcbgfeaoaa
