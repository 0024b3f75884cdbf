/- frame: numbers, get, set, clear for the kinds that pipe hears. -/
import Derived.Test.YteekafpkbdbadaaOE
import Derived.Test.YteekafpkbdbadaaUK
set_option maxRecDepth 100000
set_option linter.unusedVariables false
namespace Go.Proofs.Yteekafpkbdbadaa.Pi
open Go.RowKit
/-- a frame's cells -/
def frc (k id off n code : Int) (fin : Bool) (da tk rg : SA) : List Value := [.int .u64 k, .int .u64 id, .int .u64 off, .int .u64 n, .int .u64 code, .bool fin, .slice da.a da.n da.c, .slice tk.a tk.n tk.c, .slice rg.a rg.n rg.c]
def fr0 : List Value := [.int .u64 0, .int .u64 0, .int .u64 0, .int .u64 0, .int .u64 0, .bool false, .slice none 0 0, .slice none 0 0, .slice none 0 0]
theorem iFr : (Try.prog.info? 37).map (·.size) = some 9 := by kernel_rfl
theorem frc_one (k id off n code : Int) (fin : Bool) (da tk rg : SA) : ∀ v ∈ frc k id off n code fin da tk rg, v.oneCell' = true := by simp [frc, Value.oneCell']
theorem numbers_8 (w : World) : Calls Try.prog 56 #[.int .u64 8] w fun e w' => e = .returned (.tuple #[.string { data := #[] }, .bool false, .bool false]) ∧ w = w' := by
  go_enter Try.func56, Try.ntmps56
  go_wp2
  go_ret3
  exact ⟨rfl, rfl⟩
theorem numbers_16 (w : World) : Calls Try.prog 56 #[.int .u64 16] w fun e w' => e = .returned (.tuple #[.string { data := #[110] }, .bool false, .bool true]) ∧ w = w' := by
  go_enter Try.func56, Try.ntmps56
  go_wp2
  go_ret3
  exact ⟨rfl, rfl⟩
theorem numbers_17 (w : World) : Calls Try.prog 56 #[.int .u64 17] w fun e w' => e = .returned (.tuple #[.string { data := #[105, 110] }, .bool false, .bool true]) ∧ w = w' := by
  go_enter Try.func56, Try.ntmps56
  go_wp2
  go_ret3
  exact ⟨rfl, rfl⟩
theorem numbers_18 (w : World) : Calls Try.prog 56 #[.int .u64 18] w fun e w' => e = .returned (.tuple #[.string { data := #[110] }, .bool false, .bool true]) ∧ w = w' := by
  go_enter Try.func56, Try.ntmps56
  go_wp2
  go_ret3
  exact ⟨rfl, rfl⟩
theorem numbers_19 (w : World) : Calls Try.prog 56 #[.int .u64 19] w fun e w' => e = .returned (.tuple #[.string { data := #[110] }, .bool false, .bool true]) ∧ w = w' := by
  go_enter Try.func56, Try.ntmps56
  go_wp2
  go_ret3
  exact ⟨rfl, rfl⟩
section
variable (w : World) (k id off n code : Int) (fin : Bool) (da tk rg : SA)
theorem get_105 : Calls Try.prog 57 #[.agg (frc k id off n code fin da tk rg).toArray, .int .u8 105] w fun e w' => e = .returned (.int .u64 id) ∧ Below w.heap.size w w' := by
  have hb := Lib.hid (below_alloc w (.cells (frc k id off n code fin da tk rg).toArray 37))
  unfold frc at hb ⊢
  go_enter Try.func57, Try.ntmps57
  go_wp2
  go_ret
  exact ⟨rfl, hb.out⟩
theorem get_110 : Calls Try.prog 57 #[.agg (frc k id off n code fin da tk rg).toArray, .int .u8 110] w fun e w' => e = .returned (.int .u64 n) ∧ Below w.heap.size w w' := by
  have hb := Lib.hid (below_alloc w (.cells (frc k id off n code fin da tk rg).toArray 37))
  unfold frc at hb ⊢
  go_enter Try.func57, Try.ntmps57
  go_wp2
  go_ret
  exact ⟨rfl, hb.out⟩
theorem set_105 (v : Int) : Calls Try.prog 83 #[.agg (frc k id off n code fin da tk rg).toArray, .int .u8 105, .int .u64 v] w fun e w' => e = .returned (.agg (frc k v off n code fin da tk rg).toArray) ∧ Below w.heap.size w w' := by
  obtain ⟨g, hg⟩ : ∃ k, w.heap.size = k := ⟨_, rfl⟩
  have hA := heap_alloc2a w (.cells (frc k id off n code fin da tk rg).toArray 37) (.cells fr0.toArray 37)
  have hZ := heap_alloc2b w (.cells (frc k id off n code fin da tk rg).toArray 37) (.cells fr0.toArray 37)
  have hb : Below w.heap.size w ((w.alloc (.cells (frc k id off n code fin da tk rg).toArray 37)).alloc (.cells fr0.toArray 37)) := (below_alloc w _).alloc (by simp) _
  have H1 := Lib.hid (frc_one k v off n code fin da tk rg)
  have HF := Lib.hid (show (frc k id off n code fin da tk rg).set 1 (.int .u64 v) = frc k v off n code fin da tk rg from rfl)
  have HW := Lib.hid (show ((w.alloc (.cells (frc k id off n code fin da tk rg).toArray 37)).alloc (.cells fr0.toArray 37)).heap.size = w.heap.size + 2 by simp)
  obtain ⟨L, hL⟩ : ∃ L, frc k v off n code fin da tk rg = L := ⟨_, rfl⟩
  rw [hL] at H1 HF ⊢
  have HL9 := Lib.hid (show L.length = 9 by rw [← hL]; rfl)
  unfold frc at HF
  unfold frc fr0 at hA hZ hb HW
  obtain ⟨W1, hW1⟩ : ∃ x, (w.alloc (.cells ([.int .u64 k, .int .u64 id, .int .u64 off, .int .u64 n, .int .u64 code, .bool fin, .slice da.a da.n da.c, .slice tk.a tk.n tk.c, .slice rg.a rg.n rg.c] : List Value).toArray 37)).alloc (.cells ([.int .u64 0, .int .u64 0, .int .u64 0, .int .u64 0, .int .u64 0, .bool false, .slice none 0 0, .slice none 0 0, .slice none 0 0] : List Value).toArray 37) = x := ⟨_, rfl⟩
  rw [hW1, hg] at hA hZ
  rw [hW1] at hb HW
  have HA := Lib.hid (show CR W1 g 37 _ from hA)
  have HZ := Lib.hid (show CR W1 (g + 1) 37 fr0 from hZ)
  have HB := Lib.hid hb
  have Hg := Lib.hid hg
  have HL := Lib.hid hL
  have c1 : W1.cell? ⟨g, 1, none⟩ = some (.int .u64 id) := HA.out.at_ 1
  have f1 := HA.out.fr 1
  clear hA hZ hb hL
  unfold frc
  have hc0 := HA.out.set 1 (.int .u64 v)
  rw [HF.out] at hc0
  have hz0 : CR (W1.setCell ⟨g, 1, none⟩ (.int .u64 v)) (g + 1) 37 fr0 := HZ.out.grown (grown_set W1 g 1 _) (fun he => by injection he with he; omega)
  have HC := Lib.hid hc0
  have HZ0 := Lib.hid hz0
  have HB2 := Lib.hid (HB.out.setCell (p := ⟨g, 1, none⟩) (by simp only; have := Hg.out; omega) (.int .u64 v))
  clear hc0 hz0
  go_enter Try.func83, Try.ntmps83
  go_upto_region 9 with (fail)
  obtain ⟨W2, hW2⟩ : ∃ x, W1.setCell ⟨g, 1, none⟩ (.int .u64 v) = x := ⟨_, rfl⟩
  rw [hW2] at HC HZ0 HB2 ⊢
  clear c1 f1 hW1 hg hW2
  go_wp2_with (first
    | (refine L_loadG 37 _ rfl (by rfl) _ _ rfl _ _ HC.out.rng Try.underlying37 rfl (by rw [HL9.out]; exact iFr) ?_)
    | (refine L_storeRow rfl 37 _ _ rfl rfl rfl HZ0.out iFr rfl HL9.out H1.out ?_; intro w3 hc3 hg3))
  refine bodyPost_ret_by (results_cell_row rfl _ _ _ _ _ _ _ rfl hc3 Try.underlying37 rfl (by rw [List.size_toArray, HL9.out]; exact iFr)) rfl ⟨rfl, ?_⟩
  exact HB2.out.grown hg3 HB2.out.size (fun j hj => by cases hj; have := Hg.out; omega)
theorem set_110 (v : Int) : Calls Try.prog 83 #[.agg (frc k id off n code fin da tk rg).toArray, .int .u8 110, .int .u64 v] w fun e w' => e = .returned (.agg (frc k id off v code fin da tk rg).toArray) ∧ Below w.heap.size w w' := by
  obtain ⟨g, hg⟩ : ∃ k, w.heap.size = k := ⟨_, rfl⟩
  have hA := heap_alloc2a w (.cells (frc k id off n code fin da tk rg).toArray 37) (.cells fr0.toArray 37)
  have hZ := heap_alloc2b w (.cells (frc k id off n code fin da tk rg).toArray 37) (.cells fr0.toArray 37)
  have hb : Below w.heap.size w ((w.alloc (.cells (frc k id off n code fin da tk rg).toArray 37)).alloc (.cells fr0.toArray 37)) := (below_alloc w _).alloc (by simp) _
  have H1 := Lib.hid (frc_one k id off v code fin da tk rg)
  have HF := Lib.hid (show (frc k id off n code fin da tk rg).set 3 (.int .u64 v) = frc k id off v code fin da tk rg from rfl)
  have HW := Lib.hid (show ((w.alloc (.cells (frc k id off n code fin da tk rg).toArray 37)).alloc (.cells fr0.toArray 37)).heap.size = w.heap.size + 2 by simp)
  obtain ⟨L, hL⟩ : ∃ L, frc k id off v code fin da tk rg = L := ⟨_, rfl⟩
  rw [hL] at H1 HF ⊢
  have HL9 := Lib.hid (show L.length = 9 by rw [← hL]; rfl)
  unfold frc at HF
  unfold frc fr0 at hA hZ hb HW
  obtain ⟨W1, hW1⟩ : ∃ x, (w.alloc (.cells ([.int .u64 k, .int .u64 id, .int .u64 off, .int .u64 n, .int .u64 code, .bool fin, .slice da.a da.n da.c, .slice tk.a tk.n tk.c, .slice rg.a rg.n rg.c] : List Value).toArray 37)).alloc (.cells ([.int .u64 0, .int .u64 0, .int .u64 0, .int .u64 0, .int .u64 0, .bool false, .slice none 0 0, .slice none 0 0, .slice none 0 0] : List Value).toArray 37) = x := ⟨_, rfl⟩
  rw [hW1, hg] at hA hZ
  rw [hW1] at hb HW
  have HA := Lib.hid (show CR W1 g 37 _ from hA)
  have HZ := Lib.hid (show CR W1 (g + 1) 37 fr0 from hZ)
  have HB := Lib.hid hb
  have Hg := Lib.hid hg
  have HL := Lib.hid hL
  have c1 : W1.cell? ⟨g, 3, none⟩ = some (.int .u64 n) := HA.out.at_ 3
  have f1 := HA.out.fr 3
  clear hA hZ hb hL
  unfold frc
  have hc0 := HA.out.set 3 (.int .u64 v)
  rw [HF.out] at hc0
  have hz0 : CR (W1.setCell ⟨g, 3, none⟩ (.int .u64 v)) (g + 1) 37 fr0 := HZ.out.grown (grown_set W1 g 3 _) (fun he => by injection he with he; omega)
  have HC := Lib.hid hc0
  have HZ0 := Lib.hid hz0
  have HB2 := Lib.hid (HB.out.setCell (p := ⟨g, 3, none⟩) (by simp only; have := Hg.out; omega) (.int .u64 v))
  clear hc0 hz0
  go_enter Try.func83, Try.ntmps83
  go_upto_region 9 with (fail)
  obtain ⟨W2, hW2⟩ : ∃ x, W1.setCell ⟨g, 3, none⟩ (.int .u64 v) = x := ⟨_, rfl⟩
  rw [hW2] at HC HZ0 HB2 ⊢
  clear c1 f1 hW1 hg hW2
  go_wp2_with (first
    | (refine L_loadG 37 _ rfl (by rfl) _ _ rfl _ _ HC.out.rng Try.underlying37 rfl (by rw [HL9.out]; exact iFr) ?_)
    | (refine L_storeRow rfl 37 _ _ rfl rfl rfl HZ0.out iFr rfl HL9.out H1.out ?_; intro w3 hc3 hg3))
  refine bodyPost_ret_by (results_cell_row rfl _ _ _ _ _ _ _ rfl hc3 Try.underlying37 rfl (by rw [List.size_toArray, HL9.out]; exact iFr)) rfl ⟨rfl, ?_⟩
  exact HB2.out.grown hg3 HB2.out.size (fun j hj => by cases hj; have := Hg.out; omega)
end
theorem S_storeRow {w : World} {ops : Array Oper} {o : Oper} {f : Act} {K : Act → World → Prop} {Q : Exit → Act → World → Prop} {E : Prop} (hgd : o.guard = none) (t : TypeId) (x y : Operand) (ho : o.op = .store t x y)
    {g n : Nat} {t' : TypeId} {old new : List Value} (hx : f.eval x = .pointer (some ⟨g, 0, none⟩)) (hy : f.eval y = .agg new.toArray) (hA : CR w g t' old) (hi : (Try.prog.info? t).map (·.size) = some n) (hl : old.length = n) (hl2 : new.length = n) (h1 : ∀ v ∈ new, v.oneCell' = true)
    (h : ∀ w', CR w' g t' new → w.grownBy w' (some g) → K (f.put o.dst undef) w') : if Region.wanted o (yielded ops f.tmps) = true then Oper.wp Try.prog o f w K Q else E := by
  rw [if_pos (by simp [Region.wanted, hgd])]
  refine wp_store_row t x y ho g _ hx hy t' _ hA (by rw [List.size_toArray, hl2]; exact hi) (by simp [hl, hl2]) (by rw [Array.all_eq_true_iff_forall_mem]; intro v hv; exact h1 v (by simpa using hv)) ?_
  exact h _ (setRow_heap _ _ _ _ _ _ hA) (grownBy_setRow w g _)
theorem S_loadG {w : World} {ops : Array Oper} {o : Oper} {f : Act} {K : Act → World → Prop} {Q : Exit → Act → World → Prop} {E : Prop} (ty : TypeId) (x : Operand) (ho : o.op = .load ty x) (hg : Region.wanted o (yielded ops f.tmps) = true)
    (b i : Nat) (hx : f.eval x = .pointer (some ⟨b, i, none⟩)) (cs : List Value) (d : TypeDesc) (hc : w.rangeAt b i cs) (hu : Try.prog.underlying ty = some d) (hd : d.isRow = true) (hi : (Try.prog.info? ty).map (·.size) = some cs.length)
    (h : K (f.put o.dst (.agg cs.toArray)) w) : if Region.wanted o (yielded ops f.tmps) = true then Oper.wp Try.prog o f w K Q else E := by
  rw [if_pos hg]
  exact wp_load_mid ty x ho b i hx cs d hc hu hd hi h
theorem clear_16 (w : World) (n : Int) : Calls Try.prog 72 #[.agg (frc 16 0 0 n 0 false SA0 SA0 SA0).toArray] w fun e w' => e = .returned (.bool true) ∧ Below w.heap.size w w' := by
  obtain ⟨g, hg⟩ : ∃ k, w.heap.size = k := ⟨_, rfl⟩
  have hA := CR.new w 37 (frc 16 0 0 n 0 false SA0 SA0 SA0)
  have hb := below_alloc w (.cells (frc 16 0 0 n 0 false SA0 SA0 SA0).toArray 37)
  have HS := Lib.hid (fun (x : World) => set_110 x 16 0 0 n 0 false SA0 SA0 SA0 0)
  have H1 := Lib.hid (frc_one 16 0 0 0 0 false SA0 SA0 SA0)
  unfold frc SA0 at hA hb HS H1
  unfold frc SA0
  obtain ⟨W1, hW1⟩ : ∃ x, w.alloc (.cells ([.int .u64 16, .int .u64 0, .int .u64 0, .int .u64 n, .int .u64 0, .bool false, .slice none 0 0, .slice none 0 0, .slice none 0 0] : List Value).toArray 37) = x := ⟨_, rfl⟩
  rw [hW1, hg] at hA
  rw [hW1] at hb
  have HA := Lib.hid hA
  have HB := Lib.hid hb
  have Hg := Lib.hid (show w.heap.size ≤ g from Nat.le_of_eq hg)
  have c0 : W1.cell? ⟨g, 0, none⟩ = some (.int .u64 16) := HA.out.at_ 0
  clear hA hb
  go_enter Try.func72, Try.ntmps72
  go_wp2_with (go_at_call 56; refine (numbers_16 _).mono ?_; rintro e w' ⟨rfl, rfl⟩)
  clear hW1 hg
  refine wp_loop_rounds 2 ?_
  rw [rounds_succ]
  go_wp2_with fail
  have bV : Below W1.heap.size W1 W1.drew := bel_drew _ _
  have HAV := Lib.hid (HA.out.bel bV)
  obtain ⟨V, hV⟩ : ∃ V, W1.drew = V := ⟨_, rfl⟩
  rw [hV] at bV HAV
  have HBV := Lib.hid (HB.out.trans (bV.mono HB.out.size))
  have r0 := HAV.out.rng
  clear c0 bV
  refine wp_region_held_drew (S := fun _ => True) (by kernel_rfl) trivial (fun hHeld => ?_)
  rw [hV]
  clear hV
  refine wpAnyH_take (i := 1) (v := .string { data := #[110] }) rfl (by kernel_rfl) (by kernel_rfl) (by kernel_rfl) (fun _ _ _ h => h) (Or.inl ⟨by rfl, fun w h => by go_simp⟩) hHeld ?_
  try simp only [Act.put, List.getElem_toArray, List.getElem_cons_succ, List.getElem_cons_zero, List.setIfInBounds_toArray, List.set_cons_zero, List.set_cons_succ]
  refine wpAnyH_take (i := 2) (v := .int .i64 0) rfl (by kernel_rfl) (by kernel_rfl) (by kernel_rfl) (fun _ _ _ h => h) (Or.inl ⟨by rfl, fun w h => by go_simp⟩) hHeld ?_
  try simp only [Act.put, List.getElem_toArray, List.getElem_cons_succ, List.getElem_cons_zero, List.setIfInBounds_toArray, List.set_cons_zero, List.set_cons_succ]
  refine wpAnyH_take (i := 3) (v := .int .u8 110) rfl (by kernel_rfl) (by kernel_rfl) (by kernel_rfl) (fun _ _ _ h => h) (Or.inl ⟨by rfl, fun w h => by go_simp; rfl⟩) hHeld ?_
  try simp only [Act.put, List.getElem_toArray, List.getElem_cons_succ, List.getElem_cons_zero, List.setIfInBounds_toArray, List.set_cons_zero, List.set_cons_succ]
  refine wpAnyH_ready (rs := [0]) (by kernel_rfl) (by simp) (AllReadyH.cons rfl (fun K hK => ?_) AllReadyH.nil)
  refine S_loadG 37 _ rfl (by rfl) _ _ rfl _ _ r0 Try.underlying37 rfl iFr ?_
  refine hK.out _ _ trivial (fun hHeld => ?_)
  clear hK K hHeld r0
  try simp only [Act.put, List.getElem_toArray, List.getElem_cons_zero, List.setIfInBounds_toArray, List.set_cons_zero, List.set_cons_succ]
  refine wpAnyH_ready (rs := [4]) (by kernel_rfl) (by simp) (AllReadyH.cons rfl (fun K hK => ?_) AllReadyH.nil)
  go_simp
  go_at_call 83
  refine (HS.out V).mono ?_
  rintro x w2 ⟨rfl, B2⟩
  have HA2 := Lib.hid (HAV.out.bel B2)
  have HB2 := Lib.hid (HBV.out.trans (B2.mono HBV.out.size))
  refine hK.out _ _ trivial (fun hHeld => ?_)
  clear hK K hHeld
  try simp only [Act.put, List.getElem_toArray, List.getElem_cons_succ, List.getElem_cons_zero, List.setIfInBounds_toArray, List.set_cons_zero, List.set_cons_succ]
  refine wpAnyH_ready (rs := [5]) (by kernel_rfl) (by simp) (AllReadyH.cons rfl (fun K hK => ?_) AllReadyH.nil)
  refine S_storeRow rfl 37 _ _ rfl rfl rfl HA2.out iFr rfl rfl H1.out ?_
  intro w3 hc3 hg3
  have HB3 := Lib.hid (HB2.out.grown hg3 HB2.out.size (fun j hj => by cases hj; exact Hg.out))
  have HC3 := Lib.hid hc3
  refine hK.out _ _ trivial (fun hHeld => ?_)
  clear hK K hHeld
  try simp only [Act.put, List.getElem_toArray, List.getElem_cons_succ, List.getElem_cons_zero]
  refine wpAnyH_done (by kernel_rfl) ?_ _
  try simp only [Act.put, List.getElem_toArray, List.getElem_cons_succ, List.getElem_cons_zero]
  have c0 : w3.cell? ⟨g, 0, none⟩ = some (.int .u64 16) := HC3.out.at_ 0
  have c1 : w3.cell? ⟨g, 1, none⟩ = some (.int .u64 0) := HC3.out.at_ 1
  have c2 : w3.cell? ⟨g, 2, none⟩ = some (.int .u64 0) := HC3.out.at_ 2
  have c3 : w3.cell? ⟨g, 3, none⟩ = some (.int .u64 0) := HC3.out.at_ 3
  have c4 : w3.cell? ⟨g, 4, none⟩ = some (.int .u64 0) := HC3.out.at_ 4
  have c5 : w3.cell? ⟨g, 5, none⟩ = some (.bool false) := HC3.out.at_ 5
  have c6 : w3.cell? ⟨g, 6, none⟩ = some (.slice none 0 0) := HC3.out.at_ 6
  have c7 : w3.cell? ⟨g, 7, none⟩ = some (.slice none 0 0) := HC3.out.at_ 7
  have c8 : w3.cell? ⟨g, 8, none⟩ = some (.slice none 0 0) := HC3.out.at_ 8
  have ho : bits .or .u64 0 0 = 0 := by kernel_rfl
  go_wp2_with fail
  rw [rounds_succ]
  go_wp2_with fail
  go_ret
  exact ⟨rfl, HB3.out⟩
theorem clear_18 (w : World) (n : Int) : Calls Try.prog 72 #[.agg (frc 18 0 0 n 0 false SA0 SA0 SA0).toArray] w fun e w' => e = .returned (.bool true) ∧ Below w.heap.size w w' := by
  obtain ⟨g, hg⟩ : ∃ k, w.heap.size = k := ⟨_, rfl⟩
  have hA := CR.new w 37 (frc 18 0 0 n 0 false SA0 SA0 SA0)
  have hb := below_alloc w (.cells (frc 18 0 0 n 0 false SA0 SA0 SA0).toArray 37)
  have HS := Lib.hid (fun (x : World) => set_110 x 18 0 0 n 0 false SA0 SA0 SA0 0)
  have H1 := Lib.hid (frc_one 18 0 0 0 0 false SA0 SA0 SA0)
  unfold frc SA0 at hA hb HS H1
  unfold frc SA0
  obtain ⟨W1, hW1⟩ : ∃ x, w.alloc (.cells ([.int .u64 18, .int .u64 0, .int .u64 0, .int .u64 n, .int .u64 0, .bool false, .slice none 0 0, .slice none 0 0, .slice none 0 0] : List Value).toArray 37) = x := ⟨_, rfl⟩
  rw [hW1, hg] at hA
  rw [hW1] at hb
  have HA := Lib.hid hA
  have HB := Lib.hid hb
  have Hg := Lib.hid (show w.heap.size ≤ g from Nat.le_of_eq hg)
  have c0 : W1.cell? ⟨g, 0, none⟩ = some (.int .u64 18) := HA.out.at_ 0
  clear hA hb
  go_enter Try.func72, Try.ntmps72
  go_wp2_with (go_at_call 56; refine (numbers_18 _).mono ?_; rintro e w' ⟨rfl, rfl⟩)
  clear hW1 hg
  refine wp_loop_rounds 2 ?_
  rw [rounds_succ]
  go_wp2_with fail
  have bV : Below W1.heap.size W1 W1.drew := bel_drew _ _
  have HAV := Lib.hid (HA.out.bel bV)
  obtain ⟨V, hV⟩ : ∃ V, W1.drew = V := ⟨_, rfl⟩
  rw [hV] at bV HAV
  have HBV := Lib.hid (HB.out.trans (bV.mono HB.out.size))
  have r0 := HAV.out.rng
  clear c0 bV
  refine wp_region_held_drew (S := fun _ => True) (by kernel_rfl) trivial (fun hHeld => ?_)
  rw [hV]
  clear hV
  refine wpAnyH_take (i := 1) (v := .string { data := #[110] }) rfl (by kernel_rfl) (by kernel_rfl) (by kernel_rfl) (fun _ _ _ h => h) (Or.inl ⟨by rfl, fun w h => by go_simp⟩) hHeld ?_
  try simp only [Act.put, List.getElem_toArray, List.getElem_cons_succ, List.getElem_cons_zero, List.setIfInBounds_toArray, List.set_cons_zero, List.set_cons_succ]
  refine wpAnyH_take (i := 2) (v := .int .i64 0) rfl (by kernel_rfl) (by kernel_rfl) (by kernel_rfl) (fun _ _ _ h => h) (Or.inl ⟨by rfl, fun w h => by go_simp⟩) hHeld ?_
  try simp only [Act.put, List.getElem_toArray, List.getElem_cons_succ, List.getElem_cons_zero, List.setIfInBounds_toArray, List.set_cons_zero, List.set_cons_succ]
  refine wpAnyH_take (i := 3) (v := .int .u8 110) rfl (by kernel_rfl) (by kernel_rfl) (by kernel_rfl) (fun _ _ _ h => h) (Or.inl ⟨by rfl, fun w h => by go_simp; rfl⟩) hHeld ?_
  try simp only [Act.put, List.getElem_toArray, List.getElem_cons_succ, List.getElem_cons_zero, List.setIfInBounds_toArray, List.set_cons_zero, List.set_cons_succ]
  refine wpAnyH_ready (rs := [0]) (by kernel_rfl) (by simp) (AllReadyH.cons rfl (fun K hK => ?_) AllReadyH.nil)
  refine S_loadG 37 _ rfl (by rfl) _ _ rfl _ _ r0 Try.underlying37 rfl iFr ?_
  refine hK.out _ _ trivial (fun hHeld => ?_)
  clear hK K hHeld r0
  try simp only [Act.put, List.getElem_toArray, List.getElem_cons_zero, List.setIfInBounds_toArray, List.set_cons_zero, List.set_cons_succ]
  refine wpAnyH_ready (rs := [4]) (by kernel_rfl) (by simp) (AllReadyH.cons rfl (fun K hK => ?_) AllReadyH.nil)
  go_simp
  go_at_call 83
  refine (HS.out V).mono ?_
  rintro x w2 ⟨rfl, B2⟩
  have HA2 := Lib.hid (HAV.out.bel B2)
  have HB2 := Lib.hid (HBV.out.trans (B2.mono HBV.out.size))
  refine hK.out _ _ trivial (fun hHeld => ?_)
  clear hK K hHeld
  try simp only [Act.put, List.getElem_toArray, List.getElem_cons_succ, List.getElem_cons_zero, List.setIfInBounds_toArray, List.set_cons_zero, List.set_cons_succ]
  refine wpAnyH_ready (rs := [5]) (by kernel_rfl) (by simp) (AllReadyH.cons rfl (fun K hK => ?_) AllReadyH.nil)
  refine S_storeRow rfl 37 _ _ rfl rfl rfl HA2.out iFr rfl rfl H1.out ?_
  intro w3 hc3 hg3
  have HB3 := Lib.hid (HB2.out.grown hg3 HB2.out.size (fun j hj => by cases hj; exact Hg.out))
  have HC3 := Lib.hid hc3
  refine hK.out _ _ trivial (fun hHeld => ?_)
  clear hK K hHeld
  try simp only [Act.put, List.getElem_toArray, List.getElem_cons_succ, List.getElem_cons_zero]
  refine wpAnyH_done (by kernel_rfl) ?_ _
  try simp only [Act.put, List.getElem_toArray, List.getElem_cons_succ, List.getElem_cons_zero]
  have c0 : w3.cell? ⟨g, 0, none⟩ = some (.int .u64 18) := HC3.out.at_ 0
  have c1 : w3.cell? ⟨g, 1, none⟩ = some (.int .u64 0) := HC3.out.at_ 1
  have c2 : w3.cell? ⟨g, 2, none⟩ = some (.int .u64 0) := HC3.out.at_ 2
  have c3 : w3.cell? ⟨g, 3, none⟩ = some (.int .u64 0) := HC3.out.at_ 3
  have c4 : w3.cell? ⟨g, 4, none⟩ = some (.int .u64 0) := HC3.out.at_ 4
  have c5 : w3.cell? ⟨g, 5, none⟩ = some (.bool false) := HC3.out.at_ 5
  have c6 : w3.cell? ⟨g, 6, none⟩ = some (.slice none 0 0) := HC3.out.at_ 6
  have c7 : w3.cell? ⟨g, 7, none⟩ = some (.slice none 0 0) := HC3.out.at_ 7
  have c8 : w3.cell? ⟨g, 8, none⟩ = some (.slice none 0 0) := HC3.out.at_ 8
  have ho : bits .or .u64 0 0 = 0 := by kernel_rfl
  go_wp2_with fail
  rw [rounds_succ]
  go_wp2_with fail
  go_ret
  exact ⟨rfl, HB3.out⟩
theorem clear_19 (w : World) (n : Int) : Calls Try.prog 72 #[.agg (frc 19 0 0 n 0 false SA0 SA0 SA0).toArray] w fun e w' => e = .returned (.bool true) ∧ Below w.heap.size w w' := by
  obtain ⟨g, hg⟩ : ∃ k, w.heap.size = k := ⟨_, rfl⟩
  have hA := CR.new w 37 (frc 19 0 0 n 0 false SA0 SA0 SA0)
  have hb := below_alloc w (.cells (frc 19 0 0 n 0 false SA0 SA0 SA0).toArray 37)
  have HS := Lib.hid (fun (x : World) => set_110 x 19 0 0 n 0 false SA0 SA0 SA0 0)
  have H1 := Lib.hid (frc_one 19 0 0 0 0 false SA0 SA0 SA0)
  unfold frc SA0 at hA hb HS H1
  unfold frc SA0
  obtain ⟨W1, hW1⟩ : ∃ x, w.alloc (.cells ([.int .u64 19, .int .u64 0, .int .u64 0, .int .u64 n, .int .u64 0, .bool false, .slice none 0 0, .slice none 0 0, .slice none 0 0] : List Value).toArray 37) = x := ⟨_, rfl⟩
  rw [hW1, hg] at hA
  rw [hW1] at hb
  have HA := Lib.hid hA
  have HB := Lib.hid hb
  have Hg := Lib.hid (show w.heap.size ≤ g from Nat.le_of_eq hg)
  have c0 : W1.cell? ⟨g, 0, none⟩ = some (.int .u64 19) := HA.out.at_ 0
  clear hA hb
  go_enter Try.func72, Try.ntmps72
  go_wp2_with (go_at_call 56; refine (numbers_19 _).mono ?_; rintro e w' ⟨rfl, rfl⟩)
  clear hW1 hg
  refine wp_loop_rounds 2 ?_
  rw [rounds_succ]
  go_wp2_with fail
  have bV : Below W1.heap.size W1 W1.drew := bel_drew _ _
  have HAV := Lib.hid (HA.out.bel bV)
  obtain ⟨V, hV⟩ : ∃ V, W1.drew = V := ⟨_, rfl⟩
  rw [hV] at bV HAV
  have HBV := Lib.hid (HB.out.trans (bV.mono HB.out.size))
  have r0 := HAV.out.rng
  clear c0 bV
  refine wp_region_held_drew (S := fun _ => True) (by kernel_rfl) trivial (fun hHeld => ?_)
  rw [hV]
  clear hV
  refine wpAnyH_take (i := 1) (v := .string { data := #[110] }) rfl (by kernel_rfl) (by kernel_rfl) (by kernel_rfl) (fun _ _ _ h => h) (Or.inl ⟨by rfl, fun w h => by go_simp⟩) hHeld ?_
  try simp only [Act.put, List.getElem_toArray, List.getElem_cons_succ, List.getElem_cons_zero, List.setIfInBounds_toArray, List.set_cons_zero, List.set_cons_succ]
  refine wpAnyH_take (i := 2) (v := .int .i64 0) rfl (by kernel_rfl) (by kernel_rfl) (by kernel_rfl) (fun _ _ _ h => h) (Or.inl ⟨by rfl, fun w h => by go_simp⟩) hHeld ?_
  try simp only [Act.put, List.getElem_toArray, List.getElem_cons_succ, List.getElem_cons_zero, List.setIfInBounds_toArray, List.set_cons_zero, List.set_cons_succ]
  refine wpAnyH_take (i := 3) (v := .int .u8 110) rfl (by kernel_rfl) (by kernel_rfl) (by kernel_rfl) (fun _ _ _ h => h) (Or.inl ⟨by rfl, fun w h => by go_simp; rfl⟩) hHeld ?_
  try simp only [Act.put, List.getElem_toArray, List.getElem_cons_succ, List.getElem_cons_zero, List.setIfInBounds_toArray, List.set_cons_zero, List.set_cons_succ]
  refine wpAnyH_ready (rs := [0]) (by kernel_rfl) (by simp) (AllReadyH.cons rfl (fun K hK => ?_) AllReadyH.nil)
  refine S_loadG 37 _ rfl (by rfl) _ _ rfl _ _ r0 Try.underlying37 rfl iFr ?_
  refine hK.out _ _ trivial (fun hHeld => ?_)
  clear hK K hHeld r0
  try simp only [Act.put, List.getElem_toArray, List.getElem_cons_zero, List.setIfInBounds_toArray, List.set_cons_zero, List.set_cons_succ]
  refine wpAnyH_ready (rs := [4]) (by kernel_rfl) (by simp) (AllReadyH.cons rfl (fun K hK => ?_) AllReadyH.nil)
  go_simp
  go_at_call 83
  refine (HS.out V).mono ?_
  rintro x w2 ⟨rfl, B2⟩
  have HA2 := Lib.hid (HAV.out.bel B2)
  have HB2 := Lib.hid (HBV.out.trans (B2.mono HBV.out.size))
  refine hK.out _ _ trivial (fun hHeld => ?_)
  clear hK K hHeld
  try simp only [Act.put, List.getElem_toArray, List.getElem_cons_succ, List.getElem_cons_zero, List.setIfInBounds_toArray, List.set_cons_zero, List.set_cons_succ]
  refine wpAnyH_ready (rs := [5]) (by kernel_rfl) (by simp) (AllReadyH.cons rfl (fun K hK => ?_) AllReadyH.nil)
  refine S_storeRow rfl 37 _ _ rfl rfl rfl HA2.out iFr rfl rfl H1.out ?_
  intro w3 hc3 hg3
  have HB3 := Lib.hid (HB2.out.grown hg3 HB2.out.size (fun j hj => by cases hj; exact Hg.out))
  have HC3 := Lib.hid hc3
  refine hK.out _ _ trivial (fun hHeld => ?_)
  clear hK K hHeld
  try simp only [Act.put, List.getElem_toArray, List.getElem_cons_succ, List.getElem_cons_zero]
  refine wpAnyH_done (by kernel_rfl) ?_ _
  try simp only [Act.put, List.getElem_toArray, List.getElem_cons_succ, List.getElem_cons_zero]
  have c0 : w3.cell? ⟨g, 0, none⟩ = some (.int .u64 19) := HC3.out.at_ 0
  have c1 : w3.cell? ⟨g, 1, none⟩ = some (.int .u64 0) := HC3.out.at_ 1
  have c2 : w3.cell? ⟨g, 2, none⟩ = some (.int .u64 0) := HC3.out.at_ 2
  have c3 : w3.cell? ⟨g, 3, none⟩ = some (.int .u64 0) := HC3.out.at_ 3
  have c4 : w3.cell? ⟨g, 4, none⟩ = some (.int .u64 0) := HC3.out.at_ 4
  have c5 : w3.cell? ⟨g, 5, none⟩ = some (.bool false) := HC3.out.at_ 5
  have c6 : w3.cell? ⟨g, 6, none⟩ = some (.slice none 0 0) := HC3.out.at_ 6
  have c7 : w3.cell? ⟨g, 7, none⟩ = some (.slice none 0 0) := HC3.out.at_ 7
  have c8 : w3.cell? ⟨g, 8, none⟩ = some (.slice none 0 0) := HC3.out.at_ 8
  have ho : bits .or .u64 0 0 = 0 := by kernel_rfl
  go_wp2_with fail
  rw [rounds_succ]
  go_wp2_with fail
  go_ret
  exact ⟨rfl, HB3.out⟩
end Go.Proofs.Yteekafpkbdbadaa.Pi
