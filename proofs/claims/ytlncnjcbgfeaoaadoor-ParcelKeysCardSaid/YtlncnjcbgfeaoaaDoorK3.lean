/- A struct of three arrays, built; parcel.Next, Draw, Turn. -/
import Derived.Test.YtlncnjcbgfeaoaaDoorK2
import Derived.Laws.Tables
set_option maxRecDepth 100000
set_option linter.unusedVariables false
namespace Go.Proofs.YtlncnjcbgfeaoaaDoor
open Go.RowKit Go.Joins
theorem splice (off : Nat) : ∀ (vs : List Value) (k : Nat) (cells : Array Value), off + k + vs.length ≤ cells.size →
    ((vs.zipIdx k).foldl (fun cs x => cs.setIfInBounds (off + x.2) x.1) cells).toList = cells.toList.take (off + k) ++ vs ++ cells.toList.drop (off + k + vs.length) := by
  intro vs
  induction vs with
  | nil => intro k cells h; simp
  | cons v vs ih =>
    intro k cells h
    rw [List.length_cons] at h
    rw [List.zipIdx_cons, List.foldl_cons, ih (k + 1) _ (by rw [Array.size_setIfInBounds]; omega)]
    have hk : off + k < cells.toList.length := by rw [Array.length_toList]; omega
    rw [Array.toList_setIfInBounds, show off + (k + 1) = off + k + 1 by omega, List.take_add_one, List.take_set_of_le (Nat.le_refl _), List.getElem?_set_self hk, List.drop_set_of_lt (by omega), List.length_cons]
    simp [Nat.add_assoc, Nat.add_comm, Nat.add_left_comm]
theorem fill_cons (place : Nat → Option (Nat × Nat)) (cells : Array Value) (i : Nat) (vs : List Value) (rest : List (Nat × Value)) (off n : Nat) (hp : place i = some (off, n)) (hn : vs.length = n) (hs : off + n ≤ cells.size) :
    Instr.fill place cells ((i, .agg vs.toArray) :: rest) = Instr.fill place (cells.toList.take off ++ vs ++ cells.toList.drop (off + n)).toArray rest := by
  have hc : (Value.agg vs.toArray).cells = vs.toArray := rfl
  rw [Instr.fill, hp]
  simp only
  split
  · next h1 => simp [hc, hn] at h1; omega
  · congr 1
    have h := splice off vs 0 cells (by omega)
    rw [Nat.add_zero, hn] at h
    rw [← h, hc]
    simp
theorem built3 {P : Program} {t : TypeId} {fields : Array Field} (hu : P.underlying t = some (.struct fields)) (hz : (P.info? t).map (fun i => i.zero.map (·.cells.size)) = some (some 76))
    (hp : fields.toList.mapM (fun f => (P.info? f.type).map fun i => (f.offset, i.size)) = some [(0, 32), (32, 12), (44, 32)]) {a b c : List UInt8} (ha : a.length = 32) (hb : b.length = 12) (hc : c.length = 32) :
    P.built t [(0, .agg (a.map B).toArray), (1, .agg (b.map B).toArray), (2, .agg (c.map B).toArray)] = some ((a ++ b ++ c).map B).toArray := by
  cases hq : P.info? t with
  | none => simp [hq] at hz
  | some it =>
    cases hzz : it.zero with
    | none => simp [hq, hzz] at hz
    | some z =>
      have hsz : z.cells.size = 76 := by simpa [hq, hzz] using hz
      have hzl : z.cells.toList.length = 76 := by rw [Array.length_toList]; exact hsz
      unfold Program.built
      rw [hq, hu]
      simp only [hzz, hp]
      rw [fill_cons _ _ 0 (a.map B) _ 0 32 rfl (by rw [List.length_map, ha]) (by omega),
        fill_cons _ _ 1 (b.map B) _ 32 12 rfl (by rw [List.length_map, hb]) (by simp [ha]; try omega),
        fill_cons _ _ 2 (c.map B) _ 44 32 rfl (by rw [List.length_map, hc]) (by simp [ha, hb, hzl]; try omega)]
      rw [Instr.fill]
      have hA : (a.map B).length = 32 := by rw [List.length_map, ha]
      have hB : (b.map B).length = 12 := by rw [List.length_map, hb]
      have e1 : (List.take 32 (List.take 0 z.cells.toList ++ a.map B ++ List.drop (0 + 32) z.cells.toList)) = a.map B := by
        rw [List.take_zero, List.nil_append]; exact List.take_left' hA
      simp only [e1]
      have e2 : List.take 44 (a.map B ++ b.map B ++ List.drop (32 + 12) (List.take 0 z.cells.toList ++ a.map B ++ List.drop (0 + 32) z.cells.toList)) = a.map B ++ b.map B :=
        List.take_left' (by rw [List.length_append, hA, hB])
      rw [e2, List.drop_eq_nil_of_le (by simp [ha, hb, hzl]), List.append_nil, List.map_append, List.map_append]
theorem kz : (Tryd.prog.info? 35).map (fun i => i.zero.map (·.cells.size)) = some (some 76) := by kernel_rfl
theorem rz : (Tryd.prog.info? 33).map (fun i => i.zero.map (·.cells.size)) = some (some 76) := by kernel_rfl
theorem i76 : (Tryd.prog.info? 35).map (·.size) = some 76 := by kernel_rfl
theorem r76 : (Tryd.prog.info? 33).map (·.size) = some 76 := by kernel_rfl
theorem build_keys {a b c : List UInt8} (ha : a.length = 32) (hb : b.length = 12) (hc : c.length = 32) (w : World) :
    (Instr.build 35 #[(0, .agg (a.map B).toArray), (1, .agg (b.map B).toArray), (2, .agg (c.map B).toArray)]).run Tryd.prog w = .ok (.agg ((a ++ b ++ c).map B).toArray) w :=
  run_build w _ _ _ (built3 Tryd.underlying35 kz (by kernel_rfl) ha hb hc)
theorem build_rkeys {a b c : List UInt8} (ha : a.length = 32) (hb : b.length = 12) (hc : c.length = 32) (w : World) :
    (Instr.build 33 #[(0, .agg (a.map B).toArray), (1, .agg (b.map B).toArray), (2, .agg (c.map B).toArray)]).run Tryd.prog w = .ok (.agg ((a ++ b ++ c).map B).toArray) w :=
  run_build w _ _ _ (built3 Tryd.underlying33 rz (by kernel_rfl) ha hb hc)
/-- x stored into an array or a struct of bytes of the call's own -/
theorem L_storeA {w : World} {ops : Array Oper} {rest : List Oper} {o : Oper} {f : Act} {Q : Exit → Act → World → Prop} (hgd : o.guard = none) (t : TypeId) (x y : Operand) (ho : o.op = .store t x y)
    {g n : Nat} {old d : List UInt8} (hx : f.eval x = .pointer (some ⟨g, 0, none⟩)) (hy : f.eval y = .agg (d.map B).toArray) (hA : AB w g t old) (hi : (Tryd.prog.info? t).map (·.size) = some n) (hl : old.length = n) (hl2 : d.length = n)
    (h : ∀ w', AB w' g t d → w.grownBy w' (some g) → wpList Tryd.prog ops Q rest (f.put o.dst undef) w') : wpList Tryd.prog ops Q (o :: rest) f w := by
  refine wpList_store_row hgd t x y ho g _ hx hy t _ hA (by rw [List.size_toArray, List.length_map, hl2]; exact hi) (by simp [hl, hl2]) (by rw [Array.all_eq_true_iff_forall_mem]; intro v hv; exact one_B _ v (by simpa using hv)) ?_
  exact h _ (setRow_heap _ _ _ _ _ _ hA) (grownBy_setRow w g _)
theorem zc35 : Tryd.zeroCells35 = ((List.replicate 76 (0 : UInt8)).map B).toArray := by kernel_rfl
theorem zc33 : Tryd.zeroCells33 = ((List.replicate 76 (0 : UInt8)).map B).toArray := by kernel_rfl
theorem AB_zeros35 (w : World) {g : Nat} (hg : g = w.heap.size) : AB (w.alloc (.cells Tryd.zeroCells35 35)) g 35 (List.replicate 76 0) := by
  subst hg; rw [zc35]; exact heap_alloc_new w _
theorem AB_zeros33 (w : World) {g : Nat} (hg : g = w.heap.size) : AB (w.alloc (.cells Tryd.zeroCells33 33)) g 33 (List.replicate 76 0) := by
  subst hg; rw [zc33]; exact heap_alloc_new w _
set_option maxHeartbeats 2000000 in
theorem next_any (w : World) {sec d : List UInt8} (hsl : sec.length = 32) (hD : LB sec [113, 117, 105, 99, 32, 107, 117] 32 d) (hK : KT w) :
    Calls Tryd.prog 12 #[.agg (sec.map B).toArray] w fun e w' => e = .returned (.agg (d.map B).toArray) ∧ Below w.heap.size w w' := by
  have hZ := AB_zeros (w.alloc (.cells (sec.map B).toArray 22)) rfl
  have hA := (AB_box w 22 sec).al (.cells #[.int .u8 0, .int .u8 0, .int .u8 0, .int .u8 0, .int .u8 0, .int .u8 0, .int .u8 0, .int .u8 0, .int .u8 0, .int .u8 0, .int .u8 0, .int .u8 0, .int .u8 0, .int .u8 0, .int .u8 0, .int .u8 0, .int .u8 0, .int .u8 0, .int .u8 0, .int .u8 0, .int .u8 0, .int .u8 0, .int .u8 0, .int .u8 0, .int .u8 0, .int .u8 0, .int .u8 0, .int .u8 0, .int .u8 0, .int .u8 0, .int .u8 0, .int .u8 0] 22)
  have hb : Below w.heap.size w _ := (below_alloc w (.cells (sec.map B).toArray 22)).alloc (by simp) (.cells #[.int .u8 0, .int .u8 0, .int .u8 0, .int .u8 0, .int .u8 0, .int .u8 0, .int .u8 0, .int .u8 0, .int .u8 0, .int .u8 0, .int .u8 0, .int .u8 0, .int .u8 0, .int .u8 0, .int .u8 0, .int .u8 0, .int .u8 0, .int .u8 0, .int .u8 0, .int .u8 0, .int .u8 0, .int .u8 0, .int .u8 0, .int .u8 0, .int .u8 0, .int .u8 0, .int .u8 0, .int .u8 0, .int .u8 0, .int .u8 0, .int .u8 0, .int .u8 0] 22)
  have hz1 : (w.alloc (.cells (sec.map B).toArray 22)).heap.size = w.heap.size + 1 := by simp
  rw [hz1] at hZ
  have HK1 := Lib.hid (hK.below hb (Nat.le_refl _))
  have hi32 := len32 hD.len
  have hj32 := len32 hsl
  have hi2 : (Tryd.prog.info? 22).map (·.size) = some (d.map B).toArray.size := by rw [List.size_toArray]; exact hi32
  have Hi2 := Lib.hid hi2
  have Hj := Lib.hid hj32
  clear hK hz1 hi32 hi2 hj32
  have hdl := hD.len
  go_enter Tryd.func12, Tryd.ntmps12
  go_upto_region 1 with (fail)
  generalize (World.alloc _ _) = W1 at *
  have hr := hA.range
  go_wp2_with (first
    | (refine wpList_load_mid rfl _ _ rfl _ _ rfl (sec.map B) _ hr Tryd.underlying22 rfl Hj.out ?_)
    | (go_at_call 28; refine (lab_any _ hsl _ (by decide) hD HK1.out).mono ?_; rintro e w2 ⟨rfl, B2⟩; have hZ2 := hZ.bel B2 hZ.lt)
    | (refine L_store32 rfl _ _ rfl rfl rfl hZ2 (by simp) hdl ?_; intro w3 hA3 hg3))
  have hz2 := B2.size
  have hbw := hb.trans (B2.mono hb.size)
  refine bodyPost_ret_by (results_cell_row rfl _ _ _ _ _ _ _ rfl hA3 Tryd.underlying22 rfl Hi2.out) rfl ⟨rfl, ?_⟩
  exact hbw.grown hg3 hbw.size (fun k hk => by cases hk; omega)
theorem range_bel {n : Nat} {w w' : World} {b o : Nat} {cs : List Value} (h : w.rangeAt b o cs) (hb : Below n w w') (hg : b < n) : w'.rangeAt b o cs := fun j v hv =>
  (hb.cell (p := ⟨b, o + j, none⟩) hg).trans (h j v hv)
/-- the same store as a step of a region that draws its order -/
theorem S_storeA {w : World} {ops : Array Oper} {o : Oper} {f : Act} {K : Act → World → Prop} {Q : Exit → Act → World → Prop} {E : Prop} (hgd : o.guard = none) (t : TypeId) (x y : Operand) (ho : o.op = .store t x y)
    {g n : Nat} {old d : List UInt8} (hx : f.eval x = .pointer (some ⟨g, 0, none⟩)) (hy : f.eval y = .agg (d.map B).toArray) (hA : AB w g t old) (hi : (Tryd.prog.info? t).map (·.size) = some n) (hl : old.length = n) (hl2 : d.length = n)
    (h : ∀ w', AB w' g t d → w.grownBy w' (some g) → K (f.put o.dst undef) w') : if Region.wanted o (yielded ops f.tmps) = true then Oper.wp Tryd.prog o f w K Q else E := by
  rw [if_pos (by simp [Region.wanted, hgd])]
  refine wp_store_row t x y ho g _ hx hy t _ hA (by rw [List.size_toArray, List.length_map, hl2]; exact hi) (by simp [hl, hl2]) (by rw [Array.all_eq_true_iff_forall_mem]; intro v hv; exact one_B _ v (by simpa using hv)) ?_
  exact h _ (setRow_heap _ _ _ _ _ _ hA) (grownBy_setRow w g _)
/-- a struct built as a step of a region that draws its order -/
theorem S_build {w : World} {ops : Array Oper} {o : Oper} {f : Act} {K : Act → World → Prop} {Q : Exit → Act → World → Prop} {E : Prop} (hgd : o.guard = none) (t : TypeId) (parts : Array (Nat × Operand)) (ho : o.op = .build t parts) {cells : Array Value}
    (hb : Tryd.prog.built t (parts.map fun (i, x) => (i, f.eval x)).toList = some cells)
    (h : K (f.put o.dst (.agg cells)) w) : if Region.wanted o (yielded ops f.tmps) = true then Oper.wp Tryd.prog o f w K Q else E := by
  rw [if_pos (by simp [Region.wanted, hgd])]
  refine wp_build t parts ho (by rw [hb]; rfl) ?_
  rw [hb]; exact h
/-- a secret's keys -/
structure KS (sec : List UInt8) (a b c : List UInt8) : Prop where
  ha : LB sec [113, 117, 105, 99, 32, 107, 101, 121] 32 a
  hb : LB sec [113, 117, 105, 99, 32, 105, 118] 12 b
  hc : LB sec [113, 117, 105, 99, 32, 104, 112] 32 c
theorem KS_ex (sec : List UInt8) : ∃ a b c, KS sec a b c := by
  obtain ⟨a, ha⟩ := LB_ex sec [113, 117, 105, 99, 32, 107, 101, 121] 32
  obtain ⟨b, hb⟩ := LB_ex sec [113, 117, 105, 99, 32, 105, 118] 12
  obtain ⟨c, hc⟩ := LB_ex sec [113, 117, 105, 99, 32, 104, 112] 32
  exact ⟨a, b, c, ha, hb, hc⟩
theorem KS.len {sec a b c : List UInt8} (h : KS sec a b c) : (a ++ b ++ c).length = 76 := by
  rw [List.length_append, List.length_append, h.ha.len, h.hb.len, h.hc.len]
set_option maxHeartbeats 4000000 in
theorem draw_any (w : World) {sec a b c : List UInt8} (hsl : sec.length = 32) (hD : KS sec a b c) (hK : KT w) :
    Calls Tryd.prog 14 #[.agg (sec.map B).toArray] w fun e w' => e = .returned (.agg ((a ++ b ++ c).map B).toArray) ∧ Below w.heap.size w w' := by
  have hZ := AB_zeros35 (w.alloc (.cells (sec.map B).toArray 22)) rfl
  have hA := (AB_box w 22 sec).al (.cells Tryd.zeroCells35 35)
  have hb : Below w.heap.size w _ := (below_alloc w (.cells (sec.map B).toArray 22)).alloc (by simp) (.cells Tryd.zeroCells35 35)
  obtain ⟨D, hDe⟩ : ∃ D, a ++ b ++ c = D := ⟨_, rfl⟩
  have hz1 : (w.alloc (.cells (sec.map B).toArray 22)).heap.size = w.heap.size + 1 := by simp
  rw [hz1] at hZ
  have HK1 := Lib.hid (hK.below hb (Nat.le_refl _))
  have hj32 := Lib.hid (len32 hsl)
  have hj12 := Lib.hid (show (Tryd.prog.info? 31).map (·.size) = some (b.map B).length by rw [List.length_map, hD.hb.len]; exact i12)
  have hkl := hD.len
  rw [hDe] at hkl
  have hi2 : (Tryd.prog.info? 35).map (·.size) = some (D.map B).toArray.size := by rw [List.size_toArray, List.length_map, hkl]; exact i76
  have Hi2 := Lib.hid hi2
  have hbt := built3 Tryd.underlying35 kz (by kernel_rfl) hD.ha.len hD.hb.len hD.hc.len
  rw [hDe] at hbt ⊢
  clear hK hz1 hi2 hDe
  go_enter Tryd.func14, Tryd.ntmps14
  go_upto_region 1 with (fail)
  generalize (World.alloc _ _) = W1 at *
  have hx := hA.bs32 hsl
  go_upto_region 2 with (go_at_call 31; refine (label_12 _ _ hx (by omega) (by decide) hD.hb HK1.out).mono ?_; rintro e w2 ⟨a2, rfl, hb2, B2, hn2⟩)
  have hz2 := B2.size
  have hbw := hb.trans (B2.mono hb.size)
  have hZ2 := hZ.bel B2 hZ.lt
  obtain ⟨bn, on, rfl, -⟩ := hb2.at_ (by omega)
  have hV2 := hb2.range
  have hbg : W1.heap.size ≤ bn := hn2 _ rfl
  have hbn : bn < w2.heap.size := RS.block_lt hb2 rfl (by omega) (by omega)
  have hR2 := range_bel hA.range B2 hA.lt
  have HK2 := Lib.hid (HK1.out.below B2 (Nat.le_refl _))
  have hp2 : ∀ w', (Instr.arrayAt 31 (.slice (some ⟨bn, on, none⟩) 12 12)).run Tryd.prog w' = .ok (.pointer (some ⟨bn, on, none⟩)) w' := run_arrayAt Tryd.underlying31 _ 12 12 (Nat.le_refl _)
  have hg1 := hA.lt
  have hg2 := hZ.lt
  have hdw := hR2
  have hdv := hV2
  clear hb2 hA hx hZ
  have HK2d : Hid (KT w2.drew) := Lib.hid (show KT w2 from HK2.out)
  have hu32 := Tryd.underlying22
  have hu12 := Tryd.underlying31
  have hs32 := hj32.out
  have hs12 := hj12.out
  refine wp_region_noPanic ?_
  refine wp_region_held_drew (S := fun w' => w'.rangeAt w.heap.size 0 (sec.map B) ∧ w'.rangeAt bn on (b.map B)) (by kernel_rfl) ⟨hdw, hdv⟩ (fun hHeld => ?_)
  refine wpAnyH_take (i := 0) rfl (by kernel_rfl) (by kernel_rfl) (by kernel_rfl) (fun _ _ _ h => h) (yieldsIf_load_mid (by rfl) _ _ rfl _ _ rfl _ _ (fun w h => h.1) hu32 rfl hs32) hHeld ?_
  try simp only [Act.put, List.getElem_toArray, List.getElem_cons_zero, List.setIfInBounds_toArray, List.set_cons_zero, List.set_cons_succ]
  refine wpAnyH_take (i := 2) (v := .slice (some ⟨bn, on, none⟩) 12 12) rfl (by kernel_rfl) (by kernel_rfl) (by kernel_rfl) (fun _ _ _ h => h) (Or.inl ⟨by rfl, fun w h => by go_simp⟩) hHeld ?_
  try simp only [Act.put, List.getElem_toArray, List.getElem_cons_succ, List.getElem_cons_zero, List.setIfInBounds_toArray, List.set_cons_zero, List.set_cons_succ]
  refine wpAnyH_take (i := 3) (v := .pointer (some ⟨bn, on, none⟩)) rfl (by kernel_rfl) (by kernel_rfl) (by kernel_rfl) (fun _ _ _ h => h) (Or.inl ⟨by rfl, fun w h => by go_simp⟩) hHeld ?_
  try simp only [Act.put, List.getElem_toArray, List.getElem_cons_succ, List.getElem_cons_zero, List.setIfInBounds_toArray, List.set_cons_zero, List.set_cons_succ]
  refine wpAnyH_take (i := 4) rfl (by kernel_rfl) (by kernel_rfl) (by kernel_rfl) (fun _ _ _ h => h) (yieldsIf_load_mid (by rfl) _ _ rfl _ _ rfl _ _ (fun w h => h.2) hu12 rfl hs12) hHeld ?_
  try simp only [Act.put, List.getElem_toArray, List.getElem_cons_succ, List.getElem_cons_zero, List.setIfInBounds_toArray, List.set_cons_zero, List.set_cons_succ]
  refine wpAnyH_take (i := 5) rfl (by kernel_rfl) (by kernel_rfl) (by kernel_rfl) (fun _ _ _ h => h) (yieldsIf_load_mid (by rfl) _ _ rfl _ _ rfl _ _ (fun w h => h.1) hu32 rfl hs32) hHeld ?_
  try simp only [Act.put, List.getElem_toArray, List.getElem_cons_succ, List.getElem_cons_zero, List.setIfInBounds_toArray, List.set_cons_zero, List.set_cons_succ]
  refine wpAnyH_ready (rs := [1]) (by kernel_rfl) (by simp) (AllReadyH.cons rfl (fun K hK => ?_) AllReadyH.nil)
  go_simp
  go_at_call 28
  refine (lab_any _ hsl { data := #[113, 117, 105, 99, 32, 107, 101, 121] } (by decide) hD.ha HK2d.out).mono ?_
  rintro e w3 ⟨rfl, B3⟩
  have b3 : Below w2.heap.size w2 w3 := below_undrew B3
  have R3 := range_bel hR2 b3 (by omega)
  have V3 := range_bel hV2 b3 hbn
  have HK3 := Lib.hid (HK2.out.below b3 (Nat.le_refl _))
  refine hK.out _ _ ⟨R3, V3⟩ (fun hHeld => ?_)
  clear hK K
  try simp only [Act.put, List.getElem_toArray, List.getElem_cons_succ, List.getElem_cons_zero, List.setIfInBounds_toArray, List.set_cons_zero, List.set_cons_succ]
  refine wpAnyH_ready (rs := [6]) (by kernel_rfl) (by simp) (AllReadyH.cons rfl (fun K hK => ?_) AllReadyH.nil)
  go_simp
  go_at_call 28
  refine (lab_any _ hsl { data := #[113, 117, 105, 99, 32, 104, 112] } (by decide) hD.hc HK3.out).mono ?_
  rintro e w4 ⟨rfl, B4⟩
  have b4 := btrans b3 B4
  have R4 := range_bel hR2 b4 (by omega)
  have V4 := range_bel hV2 b4 hbn
  have hZ4 := hZ2.bel b4 (by omega)
  refine hK.out _ _ ⟨R4, V4⟩ (fun hHeld => ?_)
  clear hK K
  try simp only [Act.put, List.getElem_toArray, List.getElem_cons_succ, List.getElem_cons_zero, List.setIfInBounds_toArray, List.set_cons_zero, List.set_cons_succ]
  refine wpAnyH_ready (rs := [7]) (by kernel_rfl) (by simp) (AllReadyH.cons rfl (fun K hK => ?_) AllReadyH.nil)
  refine S_build rfl _ _ rfl (by simp only [List.map_toArray, List.map_cons, List.map_nil]; exact hbt) ?_
  refine hK.out _ _ ⟨R4, V4⟩ (fun hHeld => ?_)
  clear hK K
  try simp only [Act.put, List.getElem_toArray, List.getElem_cons_succ, List.getElem_cons_zero, List.setIfInBounds_toArray, List.set_cons_zero, List.set_cons_succ]
  refine wpAnyH_ready (rs := [8]) (by kernel_rfl) (by simp) (AllReadyH.cons rfl (fun K hK => ?_) AllReadyH.nil)
  refine S_storeA rfl _ _ _ rfl rfl rfl hZ4 i76 (by simp) hkl ?_
  intro w5 hA5 hg5
  have b5 : Below w.heap.size w w5 := (hbw.trans (b4.mono hbw.size)).grown hg5 (by have := b4.size; omega) (fun k hk => by cases hk; omega)
  refine hK.out _ _ ⟨?_, ?_⟩ (fun hHeld => ?_)
  · exact fun j v hv => (World.cell?_of_block (a := ⟨w.heap.size, 0 + j, none⟩) (hg5.block w.heap.size (by have := b4.size; omega) (by simp))).trans (R4 j v hv)
  · exact fun j v hv => (World.cell?_of_block (a := ⟨bn, on + j, none⟩) (hg5.block bn (by have := b4.size; omega) (by simp; omega))).trans (V4 j v hv)
  clear hK K
  refine wpAnyH_done (by kernel_rfl) ?_ _
  refine NoPanic.normal ?_
  try simp only [Act.put, List.getElem_toArray, List.getElem_cons_succ, List.getElem_cons_zero]
  go_wp2
  refine bodyPost_ret_by (results_cell_row rfl _ _ _ _ _ _ _ rfl hA5 Tryd.underlying35 rfl Hi2.out) rfl ⟨rfl, b5⟩
end Go.Proofs.YtlncnjcbgfeaoaaDoor
