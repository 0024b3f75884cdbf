/- salt.limbs.least. -/
import Derived.Test.YtlncnjcbgfeaoaaC9
set_option maxRecDepth 100000
set_option linter.unusedVariables false
namespace Go.Proofs.Ytlncnjcbgfeaoaa
open Go.RowKit
/-- a carry from a limb to the next, upwards -/
def gstep (g : List Nat) (i : Nat) : List Nat := (g.set (i + 1) (g.getD (i + 1) 0 + g.getD i 0 / 67108864)).set i (g.getD i 0 % 67108864)
def gup (g : List Nat) : Nat → List Nat
  | 0 => g
  | i + 1 => gstep (gup g i) i
/-- what is left, modulo 2^130 - 5 -/
def leastS (h1 : List Nat) : List Nat :=
  let g := gup (h1.set 0 (h1.getD 0 0 + 5)) 4
  if g.getD 4 0 / 67108864 = 0 then h1 else g.set 4 (g.getD 4 0 % 67108864)
theorem gstep_eq {g : List Nat} {i a b : Nat} (ea : g[i]? = some a) (eb : g[i + 1]? = some b) : gstep g i = (g.set (i + 1) (b + a / 67108864)).set i (a % 67108864) := by
  unfold gstep; simp only [List.getD_eq_getElem?_getD, ea, eb, Option.getD_some]
theorem LM.gstep {h : List Nat} {k : Nat} (H : LM h k) (hk : k ≤ 100) (i : Nat) (hi : i < 4) : LM (gstep h i) (k + 1) := by
  obtain ⟨a, ea, la⟩ := H.get i (by omega)
  obtain ⟨b, eb, lb⟩ := H.get (i + 1) (by omega)
  rw [gstep_eq ea eb]
  refine ⟨by rw [List.length_set, List.length_set, H.len], fun x hx => ?_⟩
  rcases List.mem_or_eq_of_mem_set hx with hx | rfl
  · rcases List.mem_or_eq_of_mem_set hx with hx | rfl
    · have := H.le x hx; omega
    · omega
  · omega
theorem LM.gup {h : List Nat} {k : Nat} (H : LM h k) (hk : k + 4 ≤ 100) (i : Nat) (hi : i ≤ 4) : LM (gup h i) (k + i) := by
  induction i with
  | zero => exact H
  | succ i ih => exact (ih (by omega)).gstep (by omega) i (by omega)
set_option maxHeartbeats 4000000 in
theorem least_any (w : World) {h : List Nat} (Hh : LM h 0) :
    Calls Try.prog 26 #[.agg (h.map UV).toArray] w fun e w' => e = .returned (.agg ((leastS (cars h 2)).map UV).toArray) ∧ Below w.heap.size w w' := by
  have hz1 : (w.alloc (.cells (h.map UV).toArray 52)).heap.size = w.heap.size + 1 := by simp
  have hA := (AL_box w 52 h).al (.cells #[.int .u64 0, .int .u64 0, .int .u64 0, .int .u64 0, .int .u64 0] 52)
  have hR : AL ((w.alloc (.cells (h.map UV).toArray 52)).alloc (.cells #[.int .u64 0, .int .u64 0, .int .u64 0, .int .u64 0, .int .u64 0] 52)) _ 52 [0, 0, 0, 0, 0] := heap_alloc_new _ _
  have hb : Below w.heap.size w _ := (below_alloc w (.cells (h.map UV).toArray 52)).alloc (by simp) (.cells #[.int .u64 0, .int .u64 0, .int .u64 0, .int .u64 0, .int .u64 0] 52)
  rw [hz1] at hR
  have hm := Hh.cars 2 (by omega)
  obtain ⟨X, hX⟩ : ∃ X, cars h 2 = X := ⟨_, rfl⟩
  have HX := EN.mk hX
  rw [hX] at hm ⊢
  obtain ⟨R, hRe⟩ : ∃ R, leastS X = R := ⟨_, rfl⟩
  have HRe := EN.mk hRe
  rw [hRe]
  have hXl := hm.len
  have HM := Lib.hid hm
  have HH := Lib.hid Hh
  clear hz1 hX hRe hm Hh
  go_enter Try.func26, Try.ntmps26
  go_upto_region 1 with (fail)
  generalize (World.alloc _ _) = W1 at *
  have l0 := hA.lt
  have l1 := hR.lt
  have hcar := carry_any W1 hA HH.out
  rw [HX.h] at hcar
  have Hcar := Lib.hid hcar
  have hX5 : (Try.prog.info? 52).map (·.size) = some (X.map UV).length := by rw [List.length_map, hXl]; exact iL
  have H5 := Lib.hid hX5
  have HR := Lib.hid hR
  have HB := Lib.hid hb
  clear hcar hA hR hb hX5
  go_upto_region 2 with (go_at_call 24; refine Hcar.out.mono ?_; rintro e w2 ⟨rfl, hX2, hg2⟩)
  have hr2 := hX2.rng
  have hR2 := HR.out.grown hg2 (by simp)
  have hb2 := HB.out.grown hg2 HB.out.size (fun k hk => by cases hk; exact Nat.le_refl _)
  have z2 := hg2.size
  clear Hcar
  go_upto_region 3 with (first
    | (refine wpList_load_mid rfl _ _ rfl _ _ rfl (X.map UV) _ hr2 Try.underlying52 rfl H5.out ?_)
    | (refine L_storeL rfl _ _ _ rfl X rfl rfl (show AL (w2.alloc _) w2.heap.size 52 [0, 0, 0, 0, 0] from heap_alloc_new w2 _) iL (by simp) hXl ?_; intro w3 hG3 hg3))
  have hX3 := (hX2.al _).grown hg3 (by simp; omega)
  have hR3 := (hR2.al _).grown hg3 (by simp; omega)
  have hb3 := (hb2.alloc hb2.size _).grown hg3 (by simp; have := hb2.size; omega) (fun k hk => by cases hk; exact hb2.size)
  obtain ⟨g3, hg3e⟩ : ∃ g3, w2.heap.size = g3 := ⟨_, rfl⟩
  rw [hg3e] at hG3 ⊢
  have lg3 : w.heap.size + 1 < g3 := by omega
  obtain ⟨x0, e0, le0⟩ := HM.out.get 0 (by omega)
  have q0 := hG3.cell 0 x0 e0
  have f0 := hG3.fr 0
  have hv0 : ((x0 + 5 : Nat) : Int) = (x0 : Int) + 5 := by omega
  have hG4 := hG3.set_ 0 (x0 + 5)
  have hg4 := grownBy_setCell w3 ⟨g3, 0, none⟩ (.int .u64 ((x0 + 5 : Nat) : Int))
  have HX3 := Lib.hid hX3
  have HR3 := Lib.hid hR3
  have HB3 := Lib.hid hb3
  have hse : X.set 0 (X.getD 0 0 + 5) = X.set 0 (x0 + 5) := by rw [List.getD_eq_getElem?_getD, e0]; rfl
  have hm0 : LM (X.set 0 (x0 + 5)) 11 := by
    refine ⟨by rw [List.length_set, hXl], fun y hy => ?_⟩
    rcases List.mem_or_eq_of_mem_set hy with hy | rfl
    · have := HM.out.le y hy; omega
    · omega
  obtain ⟨Y, hY⟩ : ∃ Y, X.set 0 (x0 + 5) = Y := ⟨_, rfl⟩
  rw [hY] at hG4 hm0
  have HY := EN.mk (hse.trans hY)
  rw [hv0] at hG4 hg4
  have HG4 := Lib.hid hG4
  have Hg4 := Lib.hid hg4
  have HM0 := Lib.hid hm0
  clear hX2 hg2 hr2 hR2 hb2 hg3 hX3 hR3 hb3 hG3 e0 hv0 hG4 hg4 hse hY hm0 hg3e
  go_upto_region 4 with (fail)
  clear q0 f0
  generalize World.setCell _ _ _ = w4 at *
  go_wp2
  go_loopw [11] (fun s11 wr => ∃ i : Nat, i ≤ 4 ∧ s11 = .int .i64 (i : Int) ∧ AL wr g3 52 (gup Y i) ∧ w3.grownBy wr (some g3)) (fun s11 _ => 4 - (intOf s11).toNat)
  case atStart => exact ⟨0, by omega, rfl, HG4.out, Hg4.out⟩
  case round =>
    obtain ⟨i, hi, rfl, hQ, hgq⟩ := hrel
    by_cases hlt : i < 4
    · have hmi := HM0.out.gup (by omega) i hi
      obtain ⟨T, hT⟩ : ∃ T, gup Y i = T := ⟨_, rfl⟩
      have hstep : EN (gup Y (i + 1)) (gstep T i) := ⟨by rw [← hT]; rfl⟩
      rw [hT] at hQ hmi
      obtain ⟨a, ea, la⟩ := hmi.get i (by omega)
      obtain ⟨b, eb, lb⟩ := hmi.get (i + 1) (by omega)
      have hg := gstep_eq ea eb
      have q0 := hQ.cell i a ea
      have q1 := hQ.cell (i + 1) b eb
      have f1 := hQ.fr (i + 1)
      have ea' : (T.set (i + 1) (b + a / 67108864))[i]? = some a := by rw [List.getElem?_set_ne (by omega)]; exact ea
      have hv : ((b + a / 67108864 : Nat) : Int) = (b : Int) + (a : Int) / 67108864 := by omega
      have hq1 := hQ.set_ (i + 1) (b + a / 67108864)
      have hgq1 := grown_set hgq (i + 1) (.int .u64 ((b + a / 67108864 : Nat) : Int))
      rw [hv] at hq1 hgq1
      have HQ1 := Lib.hid hq1.drew
      have HG1 := Lib.hid (grown_drew hgq1)
      have Hg := EN.mk hg
      have Hea := EN.mk (rfl : T = T)
      have q2 := HQ1.out.cell i a ea'
      have f2 := HQ1.out.fr i
      have hlow := u64_low26 a (by omega)
      clear hT hQ hgq hg ea eb ea' hv hq1 hgq1 hmi Hea
      go_upto_region 7 with (fail)
      go_region
      clear q0 q1 f1
      generalize World.drew _ = W9 at *
      have hv2 : ((a % 67108864 : Nat) : Int) = (a : Int) % 67108864 := by omega
      have hq2 := HQ1.out.set_ i (a % 67108864)
      have hg2 := grown_set HG1.out i (.int .u64 ((a % 67108864 : Nat) : Int))
      rw [← Hg.h, ← hstep.h, hv2] at hq2
      rw [hv2] at hg2
      have HQ2 := Lib.hid hq2
      have HG2 := Lib.hid hg2
      clear hq2 hg2 hv2 HQ1 HG1
      go_wp2
      go_roundw
      case rel => exact ⟨i + 1, by omega, by go_num, HQ2.out, HG2.out⟩
      case measure => simp [intOf]; omega
    · obtain rfl : i = 4 := by omega
      rw [show ((4 : Nat) : Int) = 4 from rfl]
      have hm4 := HM0.out.gup (by omega) 4 (Nat.le_refl _)
      obtain ⟨T, hT⟩ : ∃ T, gup Y 4 = T := ⟨_, rfl⟩
      rw [hT] at hQ hm4
      obtain ⟨a, ea, la⟩ := hm4.get 4 (by omega)
      have q4 := hQ.cell 4 a ea
      have f4 := hQ.fr 4
      have hlow := u64_low26 a (by omega)
      have hX4 := HX3.out.grown hgq (by simp; omega)
      have hR4 := HR3.out.grown hgq (by simp; omega)
      have hb4 := HB3.out.grown hgq HB3.out.size (fun k hk => by cases hk; omega)
      have hle : leastS X = if a / 67108864 = 0 then X else T.set 4 (a % 67108864) := by
        show (if (gup (X.set 0 (X.getD 0 0 + 5)) 4).getD 4 0 / 67108864 = 0 then X else (gup (X.set 0 (X.getD 0 0 + 5)) 4).set 4 ((gup (X.set 0 (X.getD 0 0 + 5)) 4).getD 4 0 % 67108864)) = _
        rw [HY.h, hT, List.getD_eq_getElem?_getD, ea]; rfl
      rw [HRe.h] at hle
      have hTl := hm4.len
      by_cases hz : a / 67108864 = 0
      · rw [if_pos hz] at hle
        have hRX : R = X := hle
        have hzi : (a : Int) / 67108864 = 0 := by omega
        have hr4 := hX4.rng
        have HB4 := Lib.hid hb4
        have hi2 := Lib.hid (show (Try.prog.info? 52).map (·.size) = some (X.map UV).toArray.size by rw [List.size_toArray]; exact H5.out)
        have HRX := EN.mk hRX
        clear hT hm4 ea hQ hgq hX4 hb4 hle hz hRX f4 hlow HG4 Hg4
        go_wp2_with (first
          | (refine wpList_load_mid rfl _ _ rfl _ _ rfl (X.map UV) _ hr4 Try.underlying52 rfl H5.out ?_)
          | (refine L_storeL rfl _ _ _ rfl X rfl rfl hR4 iL (by simp) hXl ?_; intro w9 hO9 hg9))
        refine bodyPost_ret_by (results_cell_row rfl _ _ _ _ _ _ _ rfl hO9 Try.underlying52 rfl hi2.out) rfl ⟨by rw [HRX.h], ?_⟩
        exact HB4.out.grown hg9 HB4.out.size (fun k hk => by cases hk; omega)
      · rw [if_neg hz] at hle
        have hzi : ¬ ((a : Int) / 67108864 = 0) := by omega
        have hv2 : ((a % 67108864 : Nat) : Int) = (a : Int) % 67108864 := by omega
        have hq2 := hQ.set_ 4 (a % 67108864)
        have hg2 := grownBy_setCell wr ⟨g3, 4, none⟩ (.int .u64 ((a % 67108864 : Nat) : Int))
        rw [← hle, hv2] at hq2
        rw [hv2] at hg2
        have hRl : R.length = 5 := by rw [hle, List.length_set, hTl]
        have hR5 : (Try.prog.info? 52).map (·.size) = some (R.map UV).length := by rw [List.length_map, hRl]; exact iL
        have HR5 := Lib.hid hR5
        have hi2 := Lib.hid (show (Try.prog.info? 52).map (·.size) = some (R.map UV).toArray.size by rw [List.size_toArray]; exact hR5)
        have hr5 := hq2.rng
        have hR6 := hR4.grown hg2 (by simp; omega)
        have HB6 := Lib.hid (hb4.grown hg2 hb4.size (fun k hk => by cases hk; show w.heap.size ≤ g3; omega))
        clear hT hm4 ea hgq hX4 hR4 hb4 hle hz hR5 hv2 hq2 hg2 hQ HG4 Hg4
        go_upto_region 13 with (fail)
        clear q4 f4 hlow
        generalize World.setCell _ _ _ = w7 at *
        go_wp2_with (first
          | (refine wpList_load_mid rfl _ _ rfl _ _ rfl (R.map UV) _ hr5 Try.underlying52 rfl HR5.out ?_)
          | (refine L_storeL rfl _ _ _ rfl R rfl rfl hR6 iL (by simp) hRl ?_; intro w9 hO9 hg9))
        refine bodyPost_ret_by (results_cell_row rfl _ _ _ _ _ _ _ rfl hO9 Try.underlying52 rfl hi2.out) rfl ⟨rfl, ?_⟩
        exact HB6.out.grown hg9 HB6.out.size (fun k hk => by cases hk; omega)
end Go.Proofs.Ytlncnjcbgfeaoaa
