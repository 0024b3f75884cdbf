/- pipe: odd, for the frames that pipe hears. -/
import Derived.Test.YteekafpkbdbadaaOS
set_option maxRecDepth 100000
set_option linter.unusedVariables false
namespace Go.Proofs.Yteekafpkbdbadaa.Pi
open Go.RowKit
theorem min2i (W : World) (ts : Array TypeId) (t : TypeId) (a b : Nat) : (Builtin.min_ ts t #[.int .i64 (a : Int), .int .i64 (b : Int)]).run Try.prog W = .ok (.int .i64 ((min a b : Nat) : Int)) W := by
  have : (Builtin.min_ ts t #[.int .i64 (a : Int), .int .i64 (b : Int)]).run Try.prog W = .ok (.int .i64 (if (b : Int) < (a : Int) then (b : Int) else (a : Int))) W := by
    simp [Builtin.min_, Builtin.min2]
  rw [this]
  congr 2
  split <;> omega
theorem L_min2i {w : World} {ops : Array Oper} {rest : List Oper} {o : Oper} {f : Act} {Q : Exit → Act → World → Prop} {ts : Array TypeId} {x y : Operand} (hop : o.op = .call { callee := .builtin .min, args := #[x, y], argTypes := ts }) (a b X : Nat) (hX : min a b = X) (e1 : f.eval x = .int .i64 (a : Int)) (e2 : f.eval y = .int .i64 (b : Int)) (hg : Region.wanted o (yielded ops f.tmps) = true)
    (h : wpList Try.prog ops Q rest (f.put o.dst (.int .i64 (X : Int))) w) : wpList Try.prog ops Q (o :: rest) f w := by
  refine wpList_on hg fun K hK => ?_
  unfold Oper.wp
  simp only [execOp, hop, resolve, invoke, builtin, Sem.run_bind, Sem.run_pure, Result.andThen_ok, List.map_toArray, List.map_cons, List.map_nil, e1, e2, min2i]
  rw [hX]
  exact hK _ _ h
set_option maxHeartbeats 1000000 in
theorem odd_16 (w : World) (n : Nat) (hn : n ≤ 4611686018427387903) : Calls Try.prog 23 #[.agg (frc 16 0 0 n 0 false SA0 SA0 SA0).toArray] w fun e w' => e = .returned (.bool false) ∧ Below w.heap.size w w' := by
  obtain ⟨g, hg⟩ : ∃ k, w.heap.size = k := ⟨_, rfl⟩
  have hA := heap_alloc2a w (.cells (frc 16 0 0 n 0 false SA0 SA0 SA0).toArray 37) (.cells fr0.toArray 37)
  have hZ := heap_alloc2b w (.cells (frc 16 0 0 n 0 false SA0 SA0 SA0).toArray 37) (.cells fr0.toArray 37)
  have hb : Below w.heap.size w ((w.alloc (.cells (frc 16 0 0 n 0 false SA0 SA0 SA0).toArray 37)).alloc (.cells fr0.toArray 37)) := (below_alloc w _).alloc (by simp) _
  have hA1 := CR.new w 37 (frc 16 0 0 n 0 false SA0 SA0 SA0)
  have HB0 := below_alloc w (.cells (frc 16 0 0 n 0 false SA0 SA0 SA0).toArray 37)
  have H1 := Lib.hid (frc_one 16 0 0 n 0 false SA0 SA0 SA0)
  have HBY := Lib.hid (fun (x : World) (bx : Below w.heap.size w x) => fbytes_16 x n hn)
  have HMN := Lib.hid (show min 0 1200 = 0 from rfl)
  unfold frc SA0 at HBY
  unfold frc SA0 at H1
  unfold frc fr0 SA0 at hA hZ hb
  unfold frc SA0 at hA1 HB0
  unfold frc SA0
  obtain ⟨W0, hW0⟩ : ∃ x, w.alloc (.cells ([.int .u64 16, .int .u64 0, .int .u64 0, .int .u64 (n : Int), .int .u64 0, .bool false, .slice none 0 0, .slice none 0 0, .slice none 0 0] : List Value).toArray 37) = x := ⟨_, rfl⟩
  rw [hW0] at hA hZ hb hA1 HB0
  obtain ⟨W1, hW1⟩ : ∃ x, W0.alloc (.cells ([.int .u64 0, .int .u64 0, .int .u64 0, .int .u64 0, .int .u64 0, .bool false, .slice none 0 0, .slice none 0 0, .slice none 0 0] : List Value).toArray 37) = x := ⟨_, rfl⟩
  rw [hW1, hg] at hA hZ
  rw [hW1] at hb
  rw [hg] at hA1
  have HA0 := Lib.hid hA1
  have HA := Lib.hid (show CR W1 g 37 _ from hA)
  have HZ := Lib.hid (show CR W1 (g + 1) 37 [.int .u64 0, .int .u64 0, .int .u64 0, .int .u64 0, .int .u64 0, .bool false, .slice none 0 0, .slice none 0 0, .slice none 0 0] from hZ)
  have HB := Lib.hid hb
  have Hg := Lib.hid (show w.heap.size = g from hg)
  have hs0 : W0.heap.size = g + 1 := by rw [← hW0, ← hg]; simp
  
  clear hA hZ hb hA1 HB0
  go_enter Try.func23, Try.ntmps23
  go_upto_region 2 with (first
    | (refine L_loadG 37 _ rfl (by rfl) _ _ rfl _ _ HA0.out.rng Try.underlying37 rfl iFr ?_)
    | (refine L_storeRow rfl 37 _ _ rfl rfl rfl HZ.out iFr rfl rfl H1.out ?_; intro w2 hc2 hg2))
  have HC2 := Lib.hid hc2
  have HB2 := Lib.hid (HB.out.grown hg2 HB.out.size (fun j hj => by cases hj; rw [Hg.out]; exact Nat.le_succ g))
  have HD2 := Lib.hid (HA.out.grown hg2 (fun he => by injection he with he; omega))
  have c6 : w2.cell? ⟨g + 1, 6, none⟩ = some (.slice none 0 0) := HC2.out.at_ 6
  have HBS := Lib.hid (RS_nil w2 1)
  clear hc2 hg2 hW1 hW0 hg
  go_upto_region 3 with (first
    | (refine L_min2i rfl 0 1200 0 HMN.out rfl rfl (by rfl) ?_)
    | (refine L_slice_h tB HBS.out 0 _ _ rfl rfl _ _ rfl rfl rfl (Nat.le_refl _) ?_; intro hs2)
    | (refine L_store1 rfl 34 _ _ rfl (i := 6) HC2.out rfl rfl (by kernel_rfl) (Nat.le_of_ble_eq_true rfl) rfl ?_; intro w3 hc3 hg3))
  have HC3 := Lib.hid hc3
  have HB3 := Lib.hid (HB2.out.grown hg3 HB2.out.size (fun j hj => by cases hj; rw [Hg.out]; exact Nat.le_succ g))
  have HD3 := Lib.hid (HD2.out.grown hg3 (fun he => by injection he with he; omega))
  clear hc3 hg3 c6 hs2
  go_upto_region 4 with (first
    | (refine L_loadG 37 _ rfl (by rfl) _ _ rfl _ _ HC3.out.rng Try.underlying37 rfl iFr ?_)
    | (go_at_call 43; refine (HBY.out w3 HB3.out).mono ?_; rintro x w4 ⟨v, rfl, b4⟩))
  have HB4 := Lib.hid (HB3.out.trans (b4.mono HB3.out.size))
  have HD4 := Lib.hid (HD3.out.bel b4)
  have c0 : w4.cell? ⟨g, 0, none⟩ = some (.int .u64 16) := HD4.out.at_ 0
  
  clear b4
  go_wp2_with fail
  go_ret
  exact ⟨rfl, HB4.out⟩
set_option maxHeartbeats 1000000 in
theorem odd_18 (w : World) (n : Nat) (hn : n ≤ 1152921504606846976) : Calls Try.prog 23 #[.agg (frc 18 0 0 n 0 false SA0 SA0 SA0).toArray] w fun e w' => e = .returned (.bool false) ∧ Below w.heap.size w w' := by
  obtain ⟨g, hg⟩ : ∃ k, w.heap.size = k := ⟨_, rfl⟩
  have hA := heap_alloc2a w (.cells (frc 18 0 0 n 0 false SA0 SA0 SA0).toArray 37) (.cells fr0.toArray 37)
  have hZ := heap_alloc2b w (.cells (frc 18 0 0 n 0 false SA0 SA0 SA0).toArray 37) (.cells fr0.toArray 37)
  have hb : Below w.heap.size w ((w.alloc (.cells (frc 18 0 0 n 0 false SA0 SA0 SA0).toArray 37)).alloc (.cells fr0.toArray 37)) := (below_alloc w _).alloc (by simp) _
  have hA1 := CR.new w 37 (frc 18 0 0 n 0 false SA0 SA0 SA0)
  have HB0 := below_alloc w (.cells (frc 18 0 0 n 0 false SA0 SA0 SA0).toArray 37)
  have H1 := Lib.hid (frc_one 18 0 0 n 0 false SA0 SA0 SA0)
  have HBY := Lib.hid (fun (x : World) (bx : Below w.heap.size w x) => fbytes_18 x n hn)
  have HMN := Lib.hid (show min 0 1200 = 0 from rfl)
  unfold frc SA0 at HBY
  unfold frc SA0 at H1
  unfold frc fr0 SA0 at hA hZ hb
  unfold frc SA0 at hA1 HB0
  unfold frc SA0
  obtain ⟨W0, hW0⟩ : ∃ x, w.alloc (.cells ([.int .u64 18, .int .u64 0, .int .u64 0, .int .u64 (n : Int), .int .u64 0, .bool false, .slice none 0 0, .slice none 0 0, .slice none 0 0] : List Value).toArray 37) = x := ⟨_, rfl⟩
  rw [hW0] at hA hZ hb hA1 HB0
  obtain ⟨W1, hW1⟩ : ∃ x, W0.alloc (.cells ([.int .u64 0, .int .u64 0, .int .u64 0, .int .u64 0, .int .u64 0, .bool false, .slice none 0 0, .slice none 0 0, .slice none 0 0] : List Value).toArray 37) = x := ⟨_, rfl⟩
  rw [hW1, hg] at hA hZ
  rw [hW1] at hb
  rw [hg] at hA1
  have HA0 := Lib.hid hA1
  have HA := Lib.hid (show CR W1 g 37 _ from hA)
  have HZ := Lib.hid (show CR W1 (g + 1) 37 [.int .u64 0, .int .u64 0, .int .u64 0, .int .u64 0, .int .u64 0, .bool false, .slice none 0 0, .slice none 0 0, .slice none 0 0] from hZ)
  have HB := Lib.hid hb
  have Hg := Lib.hid (show w.heap.size = g from hg)
  have hs0 : W0.heap.size = g + 1 := by rw [← hW0, ← hg]; simp
  
  clear hA hZ hb hA1 HB0
  go_enter Try.func23, Try.ntmps23
  go_upto_region 2 with (first
    | (refine L_loadG 37 _ rfl (by rfl) _ _ rfl _ _ HA0.out.rng Try.underlying37 rfl iFr ?_)
    | (refine L_storeRow rfl 37 _ _ rfl rfl rfl HZ.out iFr rfl rfl H1.out ?_; intro w2 hc2 hg2))
  have HC2 := Lib.hid hc2
  have HB2 := Lib.hid (HB.out.grown hg2 HB.out.size (fun j hj => by cases hj; rw [Hg.out]; exact Nat.le_succ g))
  have HD2 := Lib.hid (HA.out.grown hg2 (fun he => by injection he with he; omega))
  have c6 : w2.cell? ⟨g + 1, 6, none⟩ = some (.slice none 0 0) := HC2.out.at_ 6
  have HBS := Lib.hid (RS_nil w2 1)
  clear hc2 hg2 hW1 hW0 hg
  go_upto_region 3 with (first
    | (refine L_min2i rfl 0 1200 0 HMN.out rfl rfl (by rfl) ?_)
    | (refine L_slice_h tB HBS.out 0 _ _ rfl rfl _ _ rfl rfl rfl (Nat.le_refl _) ?_; intro hs2)
    | (refine L_store1 rfl 34 _ _ rfl (i := 6) HC2.out rfl rfl (by kernel_rfl) (Nat.le_of_ble_eq_true rfl) rfl ?_; intro w3 hc3 hg3))
  have HC3 := Lib.hid hc3
  have HB3 := Lib.hid (HB2.out.grown hg3 HB2.out.size (fun j hj => by cases hj; rw [Hg.out]; exact Nat.le_succ g))
  have HD3 := Lib.hid (HD2.out.grown hg3 (fun he => by injection he with he; omega))
  clear hc3 hg3 c6 hs2
  go_upto_region 4 with (first
    | (refine L_loadG 37 _ rfl (by rfl) _ _ rfl _ _ HC3.out.rng Try.underlying37 rfl iFr ?_)
    | (go_at_call 43; refine (HBY.out w3 HB3.out).mono ?_; rintro x w4 ⟨v, rfl, b4⟩))
  have HB4 := Lib.hid (HB3.out.trans (b4.mono HB3.out.size))
  have HD4 := Lib.hid (HD3.out.bel b4)
  have c0 : w4.cell? ⟨g, 0, none⟩ = some (.int .u64 18) := HD4.out.at_ 0
  
  clear b4
  go_wp2_with fail
  go_ret
  exact ⟨rfl, HB4.out⟩
set_option maxHeartbeats 1000000 in
theorem odd_19 (w : World) (n : Nat) (hn : n ≤ 1152921504606846976) : Calls Try.prog 23 #[.agg (frc 19 0 0 n 0 false SA0 SA0 SA0).toArray] w fun e w' => e = .returned (.bool false) ∧ Below w.heap.size w w' := by
  obtain ⟨g, hg⟩ : ∃ k, w.heap.size = k := ⟨_, rfl⟩
  have hA := heap_alloc2a w (.cells (frc 19 0 0 n 0 false SA0 SA0 SA0).toArray 37) (.cells fr0.toArray 37)
  have hZ := heap_alloc2b w (.cells (frc 19 0 0 n 0 false SA0 SA0 SA0).toArray 37) (.cells fr0.toArray 37)
  have hb : Below w.heap.size w ((w.alloc (.cells (frc 19 0 0 n 0 false SA0 SA0 SA0).toArray 37)).alloc (.cells fr0.toArray 37)) := (below_alloc w _).alloc (by simp) _
  have hA1 := CR.new w 37 (frc 19 0 0 n 0 false SA0 SA0 SA0)
  have HB0 := below_alloc w (.cells (frc 19 0 0 n 0 false SA0 SA0 SA0).toArray 37)
  have H1 := Lib.hid (frc_one 19 0 0 n 0 false SA0 SA0 SA0)
  have HBY := Lib.hid (fun (x : World) (bx : Below w.heap.size w x) => fbytes_19 x n hn)
  have HMN := Lib.hid (show min 0 1200 = 0 from rfl)
  unfold frc SA0 at HBY
  unfold frc SA0 at H1
  unfold frc fr0 SA0 at hA hZ hb
  unfold frc SA0 at hA1 HB0
  unfold frc SA0
  obtain ⟨W0, hW0⟩ : ∃ x, w.alloc (.cells ([.int .u64 19, .int .u64 0, .int .u64 0, .int .u64 (n : Int), .int .u64 0, .bool false, .slice none 0 0, .slice none 0 0, .slice none 0 0] : List Value).toArray 37) = x := ⟨_, rfl⟩
  rw [hW0] at hA hZ hb hA1 HB0
  obtain ⟨W1, hW1⟩ : ∃ x, W0.alloc (.cells ([.int .u64 0, .int .u64 0, .int .u64 0, .int .u64 0, .int .u64 0, .bool false, .slice none 0 0, .slice none 0 0, .slice none 0 0] : List Value).toArray 37) = x := ⟨_, rfl⟩
  rw [hW1, hg] at hA hZ
  rw [hW1] at hb
  rw [hg] at hA1
  have HA0 := Lib.hid hA1
  have HA := Lib.hid (show CR W1 g 37 _ from hA)
  have HZ := Lib.hid (show CR W1 (g + 1) 37 [.int .u64 0, .int .u64 0, .int .u64 0, .int .u64 0, .int .u64 0, .bool false, .slice none 0 0, .slice none 0 0, .slice none 0 0] from hZ)
  have HB := Lib.hid hb
  have Hg := Lib.hid (show w.heap.size = g from hg)
  have hs0 : W0.heap.size = g + 1 := by rw [← hW0, ← hg]; simp
  
  clear hA hZ hb hA1 HB0
  go_enter Try.func23, Try.ntmps23
  go_upto_region 2 with (first
    | (refine L_loadG 37 _ rfl (by rfl) _ _ rfl _ _ HA0.out.rng Try.underlying37 rfl iFr ?_)
    | (refine L_storeRow rfl 37 _ _ rfl rfl rfl HZ.out iFr rfl rfl H1.out ?_; intro w2 hc2 hg2))
  have HC2 := Lib.hid hc2
  have HB2 := Lib.hid (HB.out.grown hg2 HB.out.size (fun j hj => by cases hj; rw [Hg.out]; exact Nat.le_succ g))
  have HD2 := Lib.hid (HA.out.grown hg2 (fun he => by injection he with he; omega))
  have c6 : w2.cell? ⟨g + 1, 6, none⟩ = some (.slice none 0 0) := HC2.out.at_ 6
  have HBS := Lib.hid (RS_nil w2 1)
  clear hc2 hg2 hW1 hW0 hg
  go_upto_region 3 with (first
    | (refine L_min2i rfl 0 1200 0 HMN.out rfl rfl (by rfl) ?_)
    | (refine L_slice_h tB HBS.out 0 _ _ rfl rfl _ _ rfl rfl rfl (Nat.le_refl _) ?_; intro hs2)
    | (refine L_store1 rfl 34 _ _ rfl (i := 6) HC2.out rfl rfl (by kernel_rfl) (Nat.le_of_ble_eq_true rfl) rfl ?_; intro w3 hc3 hg3))
  have HC3 := Lib.hid hc3
  have HB3 := Lib.hid (HB2.out.grown hg3 HB2.out.size (fun j hj => by cases hj; rw [Hg.out]; exact Nat.le_succ g))
  have HD3 := Lib.hid (HD2.out.grown hg3 (fun he => by injection he with he; omega))
  clear hc3 hg3 c6 hs2
  go_upto_region 4 with (first
    | (refine L_loadG 37 _ rfl (by rfl) _ _ rfl _ _ HC3.out.rng Try.underlying37 rfl iFr ?_)
    | (go_at_call 43; refine (HBY.out w3 HB3.out).mono ?_; rintro x w4 ⟨v, rfl, b4⟩))
  have HB4 := Lib.hid (HB3.out.trans (b4.mono HB3.out.size))
  have HD4 := Lib.hid (HD3.out.bel b4)
  have c0 : w4.cell? ⟨g, 0, none⟩ = some (.int .u64 19) := HD4.out.at_ 0
  
  clear b4
  go_wp2_with fail
  go_ret
  exact ⟨rfl, HB4.out⟩
set_option maxHeartbeats 1000000 in
theorem odd_8_false (w : World) {id : Nat} {da : SA} {t : List UInt8} (hd : BS w da.a da.n da.c t) (hr : R8 id 0 da.n) : Calls Try.prog 23 #[.agg (frc 8 id 0 0 0 false da SA0 SA0).toArray] w fun e w' => e = .returned (.bool false) ∧ Below w.heap.size w w' := by
  obtain ⟨g, hg⟩ : ∃ k, w.heap.size = k := ⟨_, rfl⟩
  have hA := heap_alloc2a w (.cells (frc 8 id 0 0 0 false da SA0 SA0).toArray 37) (.cells fr0.toArray 37)
  have hZ := heap_alloc2b w (.cells (frc 8 id 0 0 0 false da SA0 SA0).toArray 37) (.cells fr0.toArray 37)
  have hb : Below w.heap.size w ((w.alloc (.cells (frc 8 id 0 0 0 false da SA0 SA0).toArray 37)).alloc (.cells fr0.toArray 37)) := (below_alloc w _).alloc (by simp) _
  have hA1 := CR.new w 37 (frc 8 id 0 0 0 false da SA0 SA0)
  have HB0 := below_alloc w (.cells (frc 8 id 0 0 0 false da SA0 SA0).toArray 37)
  have H1 := Lib.hid (frc_one 8 id 0 0 0 false da SA0 SA0)
  have HBY := Lib.hid (fun (x : World) (bx : Below w.heap.size w x) => fbytes_8_false x (id := id) (da := da) (RS.below hd bx (Nat.le_refl _)) hr)
  have HMN := Lib.hid (show min da.n 1200 = da.n by have := hr.d; omega)
  have HD := Lib.hid hd
  have HQ := Lib.hid hr.d
  clear hd hr
  unfold frc SA0 at HBY
  unfold frc SA0 at H1
  unfold frc fr0 SA0 at hA hZ hb
  unfold frc SA0 at hA1 HB0
  unfold frc SA0
  obtain ⟨W0, hW0⟩ : ∃ x, w.alloc (.cells ([.int .u64 8, .int .u64 (id : Int), .int .u64 0, .int .u64 0, .int .u64 0, .bool false, .slice da.a da.n da.c, .slice none 0 0, .slice none 0 0] : List Value).toArray 37) = x := ⟨_, rfl⟩
  rw [hW0] at hA hZ hb hA1 HB0
  obtain ⟨W1, hW1⟩ : ∃ x, W0.alloc (.cells ([.int .u64 0, .int .u64 0, .int .u64 0, .int .u64 0, .int .u64 0, .bool false, .slice none 0 0, .slice none 0 0, .slice none 0 0] : List Value).toArray 37) = x := ⟨_, rfl⟩
  rw [hW1, hg] at hA hZ
  rw [hW1] at hb
  rw [hg] at hA1
  have HA0 := Lib.hid hA1
  have HA := Lib.hid (show CR W1 g 37 _ from hA)
  have HZ := Lib.hid (show CR W1 (g + 1) 37 [.int .u64 0, .int .u64 0, .int .u64 0, .int .u64 0, .int .u64 0, .bool false, .slice none 0 0, .slice none 0 0, .slice none 0 0] from hZ)
  have HB := Lib.hid hb
  have Hg := Lib.hid (show w.heap.size = g from hg)
  have hs0 : W0.heap.size = g + 1 := by rw [← hW0, ← hg]; simp
  
  clear hA hZ hb hA1 HB0
  go_enter Try.func23, Try.ntmps23
  go_upto_region 2 with (first
    | (refine L_loadG 37 _ rfl (by rfl) _ _ rfl _ _ HA0.out.rng Try.underlying37 rfl iFr ?_)
    | (refine L_storeRow rfl 37 _ _ rfl rfl rfl HZ.out iFr rfl rfl H1.out ?_; intro w2 hc2 hg2))
  have HC2 := Lib.hid hc2
  have HB2 := Lib.hid (HB.out.grown hg2 HB.out.size (fun j hj => by cases hj; rw [Hg.out]; exact Nat.le_succ g))
  have HD2 := Lib.hid (HA.out.grown hg2 (fun he => by injection he with he; omega))
  have c6 : w2.cell? ⟨g + 1, 6, none⟩ = some (.slice da.a da.n da.c) := HC2.out.at_ 6
  have HBS := Lib.hid (RS.below HD.out HB2.out (Nat.le_refl _))
  clear hc2 hg2 hW1 hW0 hg
  go_upto_region 3 with (first
    | (refine L_min2i rfl da.n 1200 da.n HMN.out rfl rfl (by rfl) ?_)
    | (refine L_slice_h tB HBS.out da.n _ _ rfl rfl _ _ rfl rfl rfl (Nat.le_refl _) ?_; intro hs2)
    | (refine L_store1 rfl 34 _ _ rfl (i := 6) HC2.out rfl rfl (by kernel_rfl) (Nat.le_of_ble_eq_true rfl) rfl ?_; intro w3 hc3 hg3))
  have HC3 := Lib.hid hc3
  have HB3 := Lib.hid (HB2.out.grown hg3 HB2.out.size (fun j hj => by cases hj; rw [Hg.out]; exact Nat.le_succ g))
  have HD3 := Lib.hid (HD2.out.grown hg3 (fun he => by injection he with he; omega))
  clear hc3 hg3 c6 hs2
  go_upto_region 4 with (first
    | (refine L_loadG 37 _ rfl (by rfl) _ _ rfl _ _ HC3.out.rng Try.underlying37 rfl iFr ?_)
    | (go_at_call 43; refine (HBY.out w3 HB3.out).mono ?_; rintro x w4 ⟨v, rfl, b4⟩))
  have HB4 := Lib.hid (HB3.out.trans (b4.mono HB3.out.size))
  have HD4 := Lib.hid (HD3.out.bel b4)
  have c0 : w4.cell? ⟨g, 0, none⟩ = some (.int .u64 8) := HD4.out.at_ 0
  have c6 : w4.cell? ⟨g, 6, none⟩ = some (.slice da.a da.n da.c) := HD4.out.at_ 6
  have c2 : w4.cell? ⟨g, 2, none⟩ = some (.int .u64 0) := HD4.out.at_ 2
  have hq := HQ.out
  have q1 : decide ((4611686018427387903 : Int) < (da.n : Int)) = false := decide_eq_false (by omega)
  have q2 : decide (4611686018427387903 < da.n) = false := decide_eq_false (by omega)
  have q3 : IntKind.u64.wrap (da.n : Int) = (da.n : Int) := IntWalk.u64_in _ (by omega)
  clear hq
  clear b4
  go_wp2_with fail
  go_ret
  exact ⟨rfl, HB4.out⟩
set_option maxHeartbeats 1000000 in
theorem odd_8_true (w : World) {id : Nat} {da : SA} {t : List UInt8} (hd : BS w da.a da.n da.c t) (hr : R8 id 0 da.n) : Calls Try.prog 23 #[.agg (frc 8 id 0 0 0 true da SA0 SA0).toArray] w fun e w' => e = .returned (.bool false) ∧ Below w.heap.size w w' := by
  obtain ⟨g, hg⟩ : ∃ k, w.heap.size = k := ⟨_, rfl⟩
  have hA := heap_alloc2a w (.cells (frc 8 id 0 0 0 true da SA0 SA0).toArray 37) (.cells fr0.toArray 37)
  have hZ := heap_alloc2b w (.cells (frc 8 id 0 0 0 true da SA0 SA0).toArray 37) (.cells fr0.toArray 37)
  have hb : Below w.heap.size w ((w.alloc (.cells (frc 8 id 0 0 0 true da SA0 SA0).toArray 37)).alloc (.cells fr0.toArray 37)) := (below_alloc w _).alloc (by simp) _
  have hA1 := CR.new w 37 (frc 8 id 0 0 0 true da SA0 SA0)
  have HB0 := below_alloc w (.cells (frc 8 id 0 0 0 true da SA0 SA0).toArray 37)
  have H1 := Lib.hid (frc_one 8 id 0 0 0 true da SA0 SA0)
  have HBY := Lib.hid (fun (x : World) (bx : Below w.heap.size w x) => fbytes_8_true x (id := id) (da := da) (RS.below hd bx (Nat.le_refl _)) hr)
  have HMN := Lib.hid (show min da.n 1200 = da.n by have := hr.d; omega)
  have HD := Lib.hid hd
  have HQ := Lib.hid hr.d
  clear hd hr
  unfold frc SA0 at HBY
  unfold frc SA0 at H1
  unfold frc fr0 SA0 at hA hZ hb
  unfold frc SA0 at hA1 HB0
  unfold frc SA0
  obtain ⟨W0, hW0⟩ : ∃ x, w.alloc (.cells ([.int .u64 8, .int .u64 (id : Int), .int .u64 0, .int .u64 0, .int .u64 0, .bool true, .slice da.a da.n da.c, .slice none 0 0, .slice none 0 0] : List Value).toArray 37) = x := ⟨_, rfl⟩
  rw [hW0] at hA hZ hb hA1 HB0
  obtain ⟨W1, hW1⟩ : ∃ x, W0.alloc (.cells ([.int .u64 0, .int .u64 0, .int .u64 0, .int .u64 0, .int .u64 0, .bool false, .slice none 0 0, .slice none 0 0, .slice none 0 0] : List Value).toArray 37) = x := ⟨_, rfl⟩
  rw [hW1, hg] at hA hZ
  rw [hW1] at hb
  rw [hg] at hA1
  have HA0 := Lib.hid hA1
  have HA := Lib.hid (show CR W1 g 37 _ from hA)
  have HZ := Lib.hid (show CR W1 (g + 1) 37 [.int .u64 0, .int .u64 0, .int .u64 0, .int .u64 0, .int .u64 0, .bool false, .slice none 0 0, .slice none 0 0, .slice none 0 0] from hZ)
  have HB := Lib.hid hb
  have Hg := Lib.hid (show w.heap.size = g from hg)
  have hs0 : W0.heap.size = g + 1 := by rw [← hW0, ← hg]; simp
  
  clear hA hZ hb hA1 HB0
  go_enter Try.func23, Try.ntmps23
  go_upto_region 2 with (first
    | (refine L_loadG 37 _ rfl (by rfl) _ _ rfl _ _ HA0.out.rng Try.underlying37 rfl iFr ?_)
    | (refine L_storeRow rfl 37 _ _ rfl rfl rfl HZ.out iFr rfl rfl H1.out ?_; intro w2 hc2 hg2))
  have HC2 := Lib.hid hc2
  have HB2 := Lib.hid (HB.out.grown hg2 HB.out.size (fun j hj => by cases hj; rw [Hg.out]; exact Nat.le_succ g))
  have HD2 := Lib.hid (HA.out.grown hg2 (fun he => by injection he with he; omega))
  have c6 : w2.cell? ⟨g + 1, 6, none⟩ = some (.slice da.a da.n da.c) := HC2.out.at_ 6
  have HBS := Lib.hid (RS.below HD.out HB2.out (Nat.le_refl _))
  clear hc2 hg2 hW1 hW0 hg
  go_upto_region 3 with (first
    | (refine L_min2i rfl da.n 1200 da.n HMN.out rfl rfl (by rfl) ?_)
    | (refine L_slice_h tB HBS.out da.n _ _ rfl rfl _ _ rfl rfl rfl (Nat.le_refl _) ?_; intro hs2)
    | (refine L_store1 rfl 34 _ _ rfl (i := 6) HC2.out rfl rfl (by kernel_rfl) (Nat.le_of_ble_eq_true rfl) rfl ?_; intro w3 hc3 hg3))
  have HC3 := Lib.hid hc3
  have HB3 := Lib.hid (HB2.out.grown hg3 HB2.out.size (fun j hj => by cases hj; rw [Hg.out]; exact Nat.le_succ g))
  have HD3 := Lib.hid (HD2.out.grown hg3 (fun he => by injection he with he; omega))
  clear hc3 hg3 c6 hs2
  go_upto_region 4 with (first
    | (refine L_loadG 37 _ rfl (by rfl) _ _ rfl _ _ HC3.out.rng Try.underlying37 rfl iFr ?_)
    | (go_at_call 43; refine (HBY.out w3 HB3.out).mono ?_; rintro x w4 ⟨v, rfl, b4⟩))
  have HB4 := Lib.hid (HB3.out.trans (b4.mono HB3.out.size))
  have HD4 := Lib.hid (HD3.out.bel b4)
  have c0 : w4.cell? ⟨g, 0, none⟩ = some (.int .u64 8) := HD4.out.at_ 0
  have c6 : w4.cell? ⟨g, 6, none⟩ = some (.slice da.a da.n da.c) := HD4.out.at_ 6
  have c2 : w4.cell? ⟨g, 2, none⟩ = some (.int .u64 0) := HD4.out.at_ 2
  have hq := HQ.out
  have q1 : decide ((4611686018427387903 : Int) < (da.n : Int)) = false := decide_eq_false (by omega)
  have q2 : decide (4611686018427387903 < da.n) = false := decide_eq_false (by omega)
  have q3 : IntKind.u64.wrap (da.n : Int) = (da.n : Int) := IntWalk.u64_in _ (by omega)
  clear hq
  clear b4
  go_wp2_with fail
  go_ret
  exact ⟨rfl, HB4.out⟩
end Go.Proofs.Yteekafpkbdbadaa.Pi
