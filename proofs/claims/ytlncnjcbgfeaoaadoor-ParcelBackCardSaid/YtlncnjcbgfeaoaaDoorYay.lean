/- texts K3 K4 E5 E6 E7 K5 K7 K8 K9 in one. -/
import Derived.Test.YtlncnjcbgfeaoaaDoorYax
import Derived.Test.YtlncnjcbgfeaoaaDoorYav
import Derived.Test.YtlncnjcbgfeaoaaDoorYaj
import Derived.Test.YtlncnjcbgfeaoaaDoorYag
import Derived.Test.YtlncnjcbgfeaoaaDoorYba
import Derived.Laws.Tables

/- A struct of three arrays, built; parcel.Next, Draw, Turn. -/
set_option maxRecDepth 100000
set_option linter.unusedVariables false
namespace Go.Proofs.YtlncnjcbgfeaoaaDoor
open Go.RowKit Go.Joins
theorem splice (off : Nat) : ∀ (vs : List Value) (k : Nat) (cells : Array Value), off + k + vs.length ≤ cells.size →
    ((vs.zipIdx k).foldl (fun cs x => cs.setIfInBounds (off + x.2) x.1) cells).toList = cells.toList.take (off + k) ++ vs ++ cells.toList.drop (off + k + vs.length) := by
  intro vs
  induction vs with
  | nil => intro k cells h; simp
  | cons v vs ih =>
    intro k cells h
    rw [List.length_cons] at h
    rw [List.zipIdx_cons, List.foldl_cons, ih (k + 1) _ (by rw [Array.size_setIfInBounds]; omega)]
    have hk : off + k < cells.toList.length := by rw [Array.length_toList]; omega
    rw [Array.toList_setIfInBounds, show off + (k + 1) = off + k + 1 by omega, List.take_add_one, List.take_set_of_le (Nat.le_refl _), List.getElem?_set_self hk, List.drop_set_of_lt (by omega), List.length_cons]
    simp [Nat.add_assoc, Nat.add_comm, Nat.add_left_comm]
theorem fill_cons (place : Nat → Option (Nat × Nat)) (cells : Array Value) (i : Nat) (vs : List Value) (rest : List (Nat × Value)) (off n : Nat) (hp : place i = some (off, n)) (hn : vs.length = n) (hs : off + n ≤ cells.size) :
    Instr.fill place cells ((i, .agg vs.toArray) :: rest) = Instr.fill place (cells.toList.take off ++ vs ++ cells.toList.drop (off + n)).toArray rest := by
  have hc : (Value.agg vs.toArray).cells = vs.toArray := rfl
  rw [Instr.fill, hp]
  simp only
  split
  · next h1 => simp [hc, hn] at h1; omega
  · congr 1
    have h := splice off vs 0 cells (by omega)
    rw [Nat.add_zero, hn] at h
    rw [← h, hc]
    simp
theorem built3 {P : Program} {t : TypeId} {fields : Array Field} (hu : P.underlying t = some (.struct fields)) (hz : (P.info? t).map (fun i => i.zero.map (·.cells.size)) = some (some 76))
    (hp : fields.toList.mapM (fun f => (P.info? f.type).map fun i => (f.offset, i.size)) = some [(0, 32), (32, 12), (44, 32)]) {a b c : List UInt8} (ha : a.length = 32) (hb : b.length = 12) (hc : c.length = 32) :
    P.built t [(0, .agg (a.map B).toArray), (1, .agg (b.map B).toArray), (2, .agg (c.map B).toArray)] = some ((a ++ b ++ c).map B).toArray := by
  cases hq : P.info? t with
  | none => simp [hq] at hz
  | some it =>
    cases hzz : it.zero with
    | none => simp [hq, hzz] at hz
    | some z =>
      have hsz : z.cells.size = 76 := by simpa [hq, hzz] using hz
      have hzl : z.cells.toList.length = 76 := by rw [Array.length_toList]; exact hsz
      unfold Program.built
      rw [hq, hu]
      simp only [hzz, hp]
      rw [fill_cons _ _ 0 (a.map B) _ 0 32 rfl (by rw [List.length_map, ha]) (by omega),
        fill_cons _ _ 1 (b.map B) _ 32 12 rfl (by rw [List.length_map, hb]) (by simp [ha]; try omega),
        fill_cons _ _ 2 (c.map B) _ 44 32 rfl (by rw [List.length_map, hc]) (by simp [ha, hb, hzl]; try omega)]
      rw [Instr.fill]
      have hA : (a.map B).length = 32 := by rw [List.length_map, ha]
      have hB : (b.map B).length = 12 := by rw [List.length_map, hb]
      have e1 : (List.take 32 (List.take 0 z.cells.toList ++ a.map B ++ List.drop (0 + 32) z.cells.toList)) = a.map B := by
        rw [List.take_zero, List.nil_append]; exact List.take_left' hA
      simp only [e1]
      have e2 : List.take 44 (a.map B ++ b.map B ++ List.drop (32 + 12) (List.take 0 z.cells.toList ++ a.map B ++ List.drop (0 + 32) z.cells.toList)) = a.map B ++ b.map B :=
        List.take_left' (by rw [List.length_append, hA, hB])
      rw [e2, List.drop_eq_nil_of_le (by simp [ha, hb, hzl]), List.append_nil, List.map_append, List.map_append]
theorem kz : (Tryd.prog.info? 35).map (fun i => i.zero.map (·.cells.size)) = some (some 76) := by kernel_rfl
theorem rz : (Tryd.prog.info? 33).map (fun i => i.zero.map (·.cells.size)) = some (some 76) := by kernel_rfl
theorem k76 : (Tryd.prog.info? 35).map (·.size) = some 76 := by kernel_rfl
theorem r76 : (Tryd.prog.info? 33).map (·.size) = some 76 := by kernel_rfl
theorem build_keys {a b c : List UInt8} (ha : a.length = 32) (hb : b.length = 12) (hc : c.length = 32) (w : World) :
    (Instr.build 35 #[(0, .agg (a.map B).toArray), (1, .agg (b.map B).toArray), (2, .agg (c.map B).toArray)]).run Tryd.prog w = .ok (.agg ((a ++ b ++ c).map B).toArray) w :=
  run_build w _ _ _ (built3 Tryd.underlying35 kz (by kernel_rfl) ha hb hc)
theorem build_rkeys {a b c : List UInt8} (ha : a.length = 32) (hb : b.length = 12) (hc : c.length = 32) (w : World) :
    (Instr.build 33 #[(0, .agg (a.map B).toArray), (1, .agg (b.map B).toArray), (2, .agg (c.map B).toArray)]).run Tryd.prog w = .ok (.agg ((a ++ b ++ c).map B).toArray) w :=
  run_build w _ _ _ (built3 Tryd.underlying33 rz (by kernel_rfl) ha hb hc)
/-- x stored into an array or a struct of bytes of the call's own -/
theorem L_storeA {w : World} {ops : Array Oper} {rest : List Oper} {o : Oper} {f : Act} {Q : Exit → Act → World → Prop} (hgd : o.guard = none) (t : TypeId) (x y : Operand) (ho : o.op = .store t x y)
    {g n : Nat} {old d : List UInt8} (hx : f.eval x = .pointer (some ⟨g, 0, none⟩)) (hy : f.eval y = .agg (d.map B).toArray) (hA : AB w g t old) (hi : (Tryd.prog.info? t).map (·.size) = some n) (hl : old.length = n) (hl2 : d.length = n)
    (h : ∀ w', AB w' g t d → w.grownBy w' (some g) → wpList Tryd.prog ops Q rest (f.put o.dst undef) w') : wpList Tryd.prog ops Q (o :: rest) f w := by
  refine wpList_store_row hgd t x y ho g _ hx hy t _ hA (by rw [List.size_toArray, List.length_map, hl2]; exact hi) (by simp [hl, hl2]) (by rw [Array.all_eq_true_iff_forall_mem]; intro v hv; exact one_B _ v (by simpa using hv)) ?_
  exact h _ (setRow_heap _ _ _ _ _ _ hA) (grownBy_setRow w g _)
theorem zc35 : Tryd.zeroCells35 = ((List.replicate 76 (0 : UInt8)).map B).toArray := by kernel_rfl
theorem zc33 : Tryd.zeroCells33 = ((List.replicate 76 (0 : UInt8)).map B).toArray := by kernel_rfl
theorem AB_zeros35 (w : World) {g : Nat} (hg : g = w.heap.size) : AB (w.alloc (.cells Tryd.zeroCells35 35)) g 35 (List.replicate 76 0) := by
  subst hg; rw [zc35]; exact heap_alloc_new w _
theorem AB_zeros33 (w : World) {g : Nat} (hg : g = w.heap.size) : AB (w.alloc (.cells Tryd.zeroCells33 33)) g 33 (List.replicate 76 0) := by
  subst hg; rw [zc33]; exact heap_alloc_new w _
set_option maxHeartbeats 2000000 in
theorem next_any (w : World) {sec d : List UInt8} (hsl : sec.length = 32) (hD : LB sec [113, 117, 105, 99, 32, 107, 117] 32 d) (hK : KT w) :
    Calls Tryd.prog 12 #[.agg (sec.map B).toArray] w fun e w' => e = .returned (.agg (d.map B).toArray) ∧ Below w.heap.size w w' := by
  have hZ := AB_zeros (w.alloc (.cells (sec.map B).toArray 22)) rfl
  have hA := (AB_box w 22 sec).al (.cells #[.int .u8 0, .int .u8 0, .int .u8 0, .int .u8 0, .int .u8 0, .int .u8 0, .int .u8 0, .int .u8 0, .int .u8 0, .int .u8 0, .int .u8 0, .int .u8 0, .int .u8 0, .int .u8 0, .int .u8 0, .int .u8 0, .int .u8 0, .int .u8 0, .int .u8 0, .int .u8 0, .int .u8 0, .int .u8 0, .int .u8 0, .int .u8 0, .int .u8 0, .int .u8 0, .int .u8 0, .int .u8 0, .int .u8 0, .int .u8 0, .int .u8 0, .int .u8 0] 22)
  have hb : Below w.heap.size w _ := (below_alloc w (.cells (sec.map B).toArray 22)).alloc (by simp) (.cells #[.int .u8 0, .int .u8 0, .int .u8 0, .int .u8 0, .int .u8 0, .int .u8 0, .int .u8 0, .int .u8 0, .int .u8 0, .int .u8 0, .int .u8 0, .int .u8 0, .int .u8 0, .int .u8 0, .int .u8 0, .int .u8 0, .int .u8 0, .int .u8 0, .int .u8 0, .int .u8 0, .int .u8 0, .int .u8 0, .int .u8 0, .int .u8 0, .int .u8 0, .int .u8 0, .int .u8 0, .int .u8 0, .int .u8 0, .int .u8 0, .int .u8 0, .int .u8 0] 22)
  have hz1 : (w.alloc (.cells (sec.map B).toArray 22)).heap.size = w.heap.size + 1 := by simp
  rw [hz1] at hZ
  have HK1 := Lib.hid (hK.below hb (Nat.le_refl _))
  have hi32 := len32 hD.len
  have hj32 := len32 hsl
  have hi2 : (Tryd.prog.info? 22).map (·.size) = some (d.map B).toArray.size := by rw [List.size_toArray]; exact hi32
  have Hi2 := Lib.hid hi2
  have Hj := Lib.hid hj32
  clear hK hz1 hi32 hi2 hj32
  have hdl := hD.len
  go_enter Tryd.func12, Tryd.ntmps12
  go_upto_region 1 with (fail)
  generalize (World.alloc _ _) = W1 at *
  have hr := hA.range
  go_wp2_with (first
    | (refine wpList_load_mid rfl _ _ rfl _ _ rfl (sec.map B) _ hr Tryd.underlying22 rfl Hj.out ?_)
    | (go_at_call 28; refine (lab_any _ hsl _ (by decide) hD HK1.out).mono ?_; rintro e w2 ⟨rfl, B2⟩; have hZ2 := hZ.bel B2 hZ.lt)
    | (refine L_store32 rfl _ _ rfl rfl rfl hZ2 (by simp) hdl ?_; intro w3 hA3 hg3))
  have hz2 := B2.size
  have hbw := hb.trans (B2.mono hb.size)
  refine bodyPost_ret_by (results_cell_row rfl _ _ _ _ _ _ _ rfl hA3 Tryd.underlying22 rfl Hi2.out) rfl ⟨rfl, ?_⟩
  exact hbw.grown hg3 hbw.size (fun k hk => by cases hk; omega)
theorem range_bel {n : Nat} {w w' : World} {b o : Nat} {cs : List Value} (h : w.rangeAt b o cs) (hb : Below n w w') (hg : b < n) : w'.rangeAt b o cs := fun j v hv =>
  (hb.cell (p := ⟨b, o + j, none⟩) hg).trans (h j v hv)
/-- the same store as a step of a region that draws its order -/
theorem S_storeA {w : World} {ops : Array Oper} {o : Oper} {f : Act} {K : Act → World → Prop} {Q : Exit → Act → World → Prop} {E : Prop} (hgd : o.guard = none) (t : TypeId) (x y : Operand) (ho : o.op = .store t x y)
    {g n : Nat} {old d : List UInt8} (hx : f.eval x = .pointer (some ⟨g, 0, none⟩)) (hy : f.eval y = .agg (d.map B).toArray) (hA : AB w g t old) (hi : (Tryd.prog.info? t).map (·.size) = some n) (hl : old.length = n) (hl2 : d.length = n)
    (h : ∀ w', AB w' g t d → w.grownBy w' (some g) → K (f.put o.dst undef) w') : if Region.wanted o (yielded ops f.tmps) = true then Oper.wp Tryd.prog o f w K Q else E := by
  rw [if_pos (by simp [Region.wanted, hgd])]
  refine wp_store_row t x y ho g _ hx hy t _ hA (by rw [List.size_toArray, List.length_map, hl2]; exact hi) (by simp [hl, hl2]) (by rw [Array.all_eq_true_iff_forall_mem]; intro v hv; exact one_B _ v (by simpa using hv)) ?_
  exact h _ (setRow_heap _ _ _ _ _ _ hA) (grownBy_setRow w g _)
/-- a struct built as a step of a region that draws its order -/
theorem S_build {w : World} {ops : Array Oper} {o : Oper} {f : Act} {K : Act → World → Prop} {Q : Exit → Act → World → Prop} {E : Prop} (hgd : o.guard = none) (t : TypeId) (parts : Array (Nat × Operand)) (ho : o.op = .build t parts) {cells : Array Value}
    (hb : Tryd.prog.built t (parts.map fun (i, x) => (i, f.eval x)).toList = some cells)
    (h : K (f.put o.dst (.agg cells)) w) : if Region.wanted o (yielded ops f.tmps) = true then Oper.wp Tryd.prog o f w K Q else E := by
  rw [if_pos (by simp [Region.wanted, hgd])]
  refine wp_build t parts ho (by rw [hb]; rfl) ?_
  rw [hb]; exact h
/-- a secret's keys -/
structure KS (sec : List UInt8) (a b c : List UInt8) : Prop where
  ha : LB sec [113, 117, 105, 99, 32, 107, 101, 121] 32 a
  hb : LB sec [113, 117, 105, 99, 32, 105, 118] 12 b
  hc : LB sec [113, 117, 105, 99, 32, 104, 112] 32 c
theorem KS_ex (sec : List UInt8) : ∃ a b c, KS sec a b c := by
  obtain ⟨a, ha⟩ := LB_ex sec [113, 117, 105, 99, 32, 107, 101, 121] 32
  obtain ⟨b, hb⟩ := LB_ex sec [113, 117, 105, 99, 32, 105, 118] 12
  obtain ⟨c, hc⟩ := LB_ex sec [113, 117, 105, 99, 32, 104, 112] 32
  exact ⟨a, b, c, ha, hb, hc⟩
theorem KS.len {sec a b c : List UInt8} (h : KS sec a b c) : (a ++ b ++ c).length = 76 := by
  rw [List.length_append, List.length_append, h.ha.len, h.hb.len, h.hc.len]
set_option maxHeartbeats 4000000 in
theorem draw_any (w : World) {sec a b c : List UInt8} (hsl : sec.length = 32) (hD : KS sec a b c) (hK : KT w) :
    Calls Tryd.prog 14 #[.agg (sec.map B).toArray] w fun e w' => e = .returned (.agg ((a ++ b ++ c).map B).toArray) ∧ Below w.heap.size w w' := by
  have hZ := AB_zeros35 (w.alloc (.cells (sec.map B).toArray 22)) rfl
  have hA := (AB_box w 22 sec).al (.cells Tryd.zeroCells35 35)
  have hb : Below w.heap.size w _ := (below_alloc w (.cells (sec.map B).toArray 22)).alloc (by simp) (.cells Tryd.zeroCells35 35)
  obtain ⟨D, hDe⟩ : ∃ D, a ++ b ++ c = D := ⟨_, rfl⟩
  have hz1 : (w.alloc (.cells (sec.map B).toArray 22)).heap.size = w.heap.size + 1 := by simp
  rw [hz1] at hZ
  have HK1 := Lib.hid (hK.below hb (Nat.le_refl _))
  have hj32 := Lib.hid (len32 hsl)
  have hj12 := Lib.hid (show (Tryd.prog.info? 31).map (·.size) = some (b.map B).length by rw [List.length_map, hD.hb.len]; exact i12)
  have hkl := hD.len
  rw [hDe] at hkl
  have hi2 : (Tryd.prog.info? 35).map (·.size) = some (D.map B).toArray.size := by rw [List.size_toArray, List.length_map, hkl]; exact k76
  have Hi2 := Lib.hid hi2
  have hbt := built3 Tryd.underlying35 kz (by kernel_rfl) hD.ha.len hD.hb.len hD.hc.len
  rw [hDe] at hbt ⊢
  clear hK hz1 hi2 hDe
  go_enter Tryd.func14, Tryd.ntmps14
  go_upto_region 1 with (fail)
  generalize (World.alloc _ _) = W1 at *
  have hx := hA.bs32 hsl
  go_upto_region 2 with (go_at_call 31; refine (label_12 _ _ hx (by omega) (by decide) hD.hb HK1.out).mono ?_; rintro e w2 ⟨a2, rfl, hb2, B2, hn2⟩)
  have hz2 := B2.size
  have hbw := hb.trans (B2.mono hb.size)
  have hZ2 := hZ.bel B2 hZ.lt
  obtain ⟨bn, on, rfl, -⟩ := hb2.at_ (by omega)
  have hV2 := hb2.range
  have hbg : W1.heap.size ≤ bn := hn2 _ rfl
  have hbn : bn < w2.heap.size := RS.block_lt hb2 rfl (by omega) (by omega)
  have hR2 := range_bel hA.range B2 hA.lt
  have HK2 := Lib.hid (HK1.out.below B2 (Nat.le_refl _))
  have hp2 : ∀ w', (Instr.arrayAt 31 (.slice (some ⟨bn, on, none⟩) 12 12)).run Tryd.prog w' = .ok (.pointer (some ⟨bn, on, none⟩)) w' := run_arrayAt Tryd.underlying31 _ 12 12 (Nat.le_refl _)
  have hg1 := hA.lt
  have hg2 := hZ.lt
  have hdw := hR2
  have hdv := hV2
  clear hb2 hA hx hZ
  have HK2d : Hid (KT w2.drew) := Lib.hid (show KT w2 from HK2.out)
  have hu32 := Tryd.underlying22
  have hu12 := Tryd.underlying31
  have hs32 := hj32.out
  have hs12 := hj12.out
  refine wp_region_noPanic ?_
  refine wp_region_held_drew (S := fun w' => w'.rangeAt w.heap.size 0 (sec.map B) ∧ w'.rangeAt bn on (b.map B)) (by kernel_rfl) ⟨hdw, hdv⟩ (fun hHeld => ?_)
  refine wpAnyH_take (i := 0) rfl (by kernel_rfl) (by kernel_rfl) (by kernel_rfl) (fun _ _ _ h => h) (yieldsIf_load_mid (by rfl) _ _ rfl _ _ rfl _ _ (fun w h => h.1) hu32 rfl hs32) hHeld ?_
  try simp only [Act.put, List.getElem_toArray, List.getElem_cons_zero, List.setIfInBounds_toArray, List.set_cons_zero, List.set_cons_succ]
  refine wpAnyH_take (i := 2) (v := .slice (some ⟨bn, on, none⟩) 12 12) rfl (by kernel_rfl) (by kernel_rfl) (by kernel_rfl) (fun _ _ _ h => h) (Or.inl ⟨by rfl, fun w h => by go_simp⟩) hHeld ?_
  try simp only [Act.put, List.getElem_toArray, List.getElem_cons_succ, List.getElem_cons_zero, List.setIfInBounds_toArray, List.set_cons_zero, List.set_cons_succ]
  refine wpAnyH_take (i := 3) (v := .pointer (some ⟨bn, on, none⟩)) rfl (by kernel_rfl) (by kernel_rfl) (by kernel_rfl) (fun _ _ _ h => h) (Or.inl ⟨by rfl, fun w h => by go_simp⟩) hHeld ?_
  try simp only [Act.put, List.getElem_toArray, List.getElem_cons_succ, List.getElem_cons_zero, List.setIfInBounds_toArray, List.set_cons_zero, List.set_cons_succ]
  refine wpAnyH_take (i := 4) rfl (by kernel_rfl) (by kernel_rfl) (by kernel_rfl) (fun _ _ _ h => h) (yieldsIf_load_mid (by rfl) _ _ rfl _ _ rfl _ _ (fun w h => h.2) hu12 rfl hs12) hHeld ?_
  try simp only [Act.put, List.getElem_toArray, List.getElem_cons_succ, List.getElem_cons_zero, List.setIfInBounds_toArray, List.set_cons_zero, List.set_cons_succ]
  refine wpAnyH_take (i := 5) rfl (by kernel_rfl) (by kernel_rfl) (by kernel_rfl) (fun _ _ _ h => h) (yieldsIf_load_mid (by rfl) _ _ rfl _ _ rfl _ _ (fun w h => h.1) hu32 rfl hs32) hHeld ?_
  try simp only [Act.put, List.getElem_toArray, List.getElem_cons_succ, List.getElem_cons_zero, List.setIfInBounds_toArray, List.set_cons_zero, List.set_cons_succ]
  refine wpAnyH_ready (rs := [1]) (by kernel_rfl) (by simp) (AllReadyH.cons rfl (fun K hK => ?_) AllReadyH.nil)
  go_simp
  go_at_call 28
  refine (lab_any _ hsl { data := #[113, 117, 105, 99, 32, 107, 101, 121] } (by decide) hD.ha HK2d.out).mono ?_
  rintro e w3 ⟨rfl, B3⟩
  have b3 : Below w2.heap.size w2 w3 := below_undrew B3
  have R3 := range_bel hR2 b3 (by omega)
  have V3 := range_bel hV2 b3 hbn
  have HK3 := Lib.hid (HK2.out.below b3 (Nat.le_refl _))
  refine hK.out _ _ ⟨R3, V3⟩ (fun hHeld => ?_)
  clear hK K
  try simp only [Act.put, List.getElem_toArray, List.getElem_cons_succ, List.getElem_cons_zero, List.setIfInBounds_toArray, List.set_cons_zero, List.set_cons_succ]
  refine wpAnyH_ready (rs := [6]) (by kernel_rfl) (by simp) (AllReadyH.cons rfl (fun K hK => ?_) AllReadyH.nil)
  go_simp
  go_at_call 28
  refine (lab_any _ hsl { data := #[113, 117, 105, 99, 32, 104, 112] } (by decide) hD.hc HK3.out).mono ?_
  rintro e w4 ⟨rfl, B4⟩
  have b4 := btrans b3 B4
  have R4 := range_bel hR2 b4 (by omega)
  have V4 := range_bel hV2 b4 hbn
  have hZ4 := hZ2.bel b4 (by omega)
  refine hK.out _ _ ⟨R4, V4⟩ (fun hHeld => ?_)
  clear hK K
  try simp only [Act.put, List.getElem_toArray, List.getElem_cons_succ, List.getElem_cons_zero, List.setIfInBounds_toArray, List.set_cons_zero, List.set_cons_succ]
  refine wpAnyH_ready (rs := [7]) (by kernel_rfl) (by simp) (AllReadyH.cons rfl (fun K hK => ?_) AllReadyH.nil)
  refine S_build rfl _ _ rfl (by simp only [List.map_toArray, List.map_cons, List.map_nil]; exact hbt) ?_
  refine hK.out _ _ ⟨R4, V4⟩ (fun hHeld => ?_)
  clear hK K
  try simp only [Act.put, List.getElem_toArray, List.getElem_cons_succ, List.getElem_cons_zero, List.setIfInBounds_toArray, List.set_cons_zero, List.set_cons_succ]
  refine wpAnyH_ready (rs := [8]) (by kernel_rfl) (by simp) (AllReadyH.cons rfl (fun K hK => ?_) AllReadyH.nil)
  refine S_storeA rfl _ _ _ rfl rfl rfl hZ4 k76 (by simp) hkl ?_
  intro w5 hA5 hg5
  have b5 : Below w.heap.size w w5 := (hbw.trans (b4.mono hbw.size)).grown hg5 (by have := b4.size; omega) (fun k hk => by cases hk; omega)
  refine hK.out _ _ ⟨?_, ?_⟩ (fun hHeld => ?_)
  · exact fun j v hv => (World.cell?_of_block (a := ⟨w.heap.size, 0 + j, none⟩) (hg5.block w.heap.size (by have := b4.size; omega) (by simp))).trans (R4 j v hv)
  · exact fun j v hv => (World.cell?_of_block (a := ⟨bn, on + j, none⟩) (hg5.block bn (by have := b4.size; omega) (by simp; omega))).trans (V4 j v hv)
  clear hK K
  refine wpAnyH_done (by kernel_rfl) ?_ _
  refine NoPanic.normal ?_
  try simp only [Act.put, List.getElem_toArray, List.getElem_cons_succ, List.getElem_cons_zero]
  go_wp2
  refine bodyPost_ret_by (results_cell_row rfl _ _ _ _ _ _ _ rfl hA5 Tryd.underlying35 rfl Hi2.out) rfl ⟨rfl, b5⟩
end Go.Proofs.YtlncnjcbgfeaoaaDoor

/- parcel.Turn, parcel.First. -/
set_option maxRecDepth 100000
set_option linter.unusedVariables false
namespace Go.Proofs.YtlncnjcbgfeaoaaDoor
open Go.RowKit Go.Joins
theorem AB.mid {w : World} {g : Nat} {t : TypeId} {vs : List UInt8} (h : AB w g t vs) (o : Nat) : w.rangeAt g o ((vs.drop o).map B) := fun j v hv => by
  rw [List.getElem?_map, List.getElem?_drop] at hv
  obtain ⟨x, hx, rfl⟩ := Option.map_eq_some_iff.1 hv
  exact h.cell _ x hx
theorem AB.there {w : World} {g : Nat} {t : TypeId} {vs : List UInt8} (h : AB w g t vs) (o n : Nat) (hn : o + n ≤ vs.length) : w.there g o n := fun j hj => by
  refine ⟨?_, h.fr _⟩
  rw [h.cell (o + j) (vs[o + j]'(by omega)) (List.getElem?_eq_getElem _)]; rfl
theorem AB.setCells {g : Nat} {t : TypeId} : ∀ (d vs : List UInt8) (o : Nat) (w : World), AB w g t vs → o + d.length ≤ vs.length →
    AB (w.setCells g o (d.map B)) g t (vs.take o ++ d ++ vs.drop (o + d.length)) ∧ w.grownBy (w.setCells g o (d.map B)) (some g) := by
  intro d
  induction d with
  | nil => intro vs o w h hl; simp [World.setCells]; exact ⟨h, World.grownBy.refl w _⟩
  | cons x d ih =>
    intro vs o w h hl
    rw [List.length_cons] at hl
    obtain ⟨h1, h2⟩ := ih (vs.set o x) (o + 1) _ (h.set_ o x) (by rw [List.length_set]; omega)
    refine ⟨?_, grown_trans (grownBy_setCell w ⟨g, o, none⟩ (B x)) h2⟩
    have e : (vs.set o x).take (o + 1) ++ d ++ (vs.set o x).drop (o + 1 + d.length) = vs.take o ++ x :: d ++ vs.drop (o + (x :: d).length) := by
      rw [List.take_add_one, List.take_set_of_le (Nat.le_refl _), List.getElem?_set_self (by omega), List.drop_set_of_lt (by omega), List.length_cons, show o + 1 + d.length = o + (d.length + 1) by omega]
      simp
    rw [e] at h1
    exact h1
/-- x stored into the middle of an array or struct of bytes of the call's own -/
theorem L_storeMid {w : World} {ops : Array Oper} {rest : List Oper} {o : Oper} {f : Act} {Q : Exit → Act → World → Prop} (hgd : o.guard = none) (t : TypeId) (x y : Operand) (ho : o.op = .store t x y)
    {g i n : Nat} {t0 : TypeId} {old d : List UInt8} (hx : f.eval x = .pointer (some ⟨g, i, none⟩)) (hy : f.eval y = .agg (d.map B).toArray) (hA : AB w g t0 old) (hi : (Tryd.prog.info? t).map (·.size) = some n) (hl : i + n ≤ old.length) (hl2 : d.length = n)
    (h : ∀ w', AB w' g t0 (old.take i ++ d ++ old.drop (i + n)) → w.grownBy w' (some g) → wpList Tryd.prog ops Q rest (f.put o.dst undef) w') : wpList Tryd.prog ops Q (o :: rest) f w := by
  refine wpList_store_mid hgd t x y ho g i _ hx hy (hA.there i _ (by rw [List.size_toArray, List.length_map]; omega)) (by rw [List.size_toArray, List.length_map, hl2]; exact hi) (by rw [Array.all_eq_true_iff_forall_mem]; intro v hv; exact one_B _ v (by simpa using hv)) ?_
  obtain ⟨h1, h2⟩ := AB.setCells d old i w hA (by omega)
  rw [hl2] at h1
  exact h _ h1 h2
set_option maxHeartbeats 4000000 in
theorem turn_any (w : World) {k sec a b c : List UInt8} (hkl : k.length = 76) (hsl : sec.length = 32) (hD : KS sec a b c) (hK : KT w) :
    Calls Tryd.prog 17 #[.agg (k.map B).toArray, .agg (sec.map B).toArray] w fun e w' => e = .returned (.agg ((a ++ b ++ k.drop 44).map B).toArray) ∧ Below w.heap.size w w' := by
  have hz1 : (w.alloc (.cells (k.map B).toArray 35)).heap.size = w.heap.size + 1 := by simp
  have hz2 : ((w.alloc (.cells (k.map B).toArray 35)).alloc (.cells (sec.map B).toArray 22)).heap.size = w.heap.size + 1 + 1 := by simp
  have hZ := AB_zeros35 ((w.alloc (.cells (k.map B).toArray 35)).alloc (.cells (sec.map B).toArray 22)) rfl
  have hS := (AB_box (w.alloc (.cells (k.map B).toArray 35)) 22 sec).al (.cells Tryd.zeroCells35 35)
  have hA := ((AB_box w 35 k).al (.cells (sec.map B).toArray 22)).al (.cells Tryd.zeroCells35 35)
  have hb : Below w.heap.size w _ := ((below_alloc w (.cells (k.map B).toArray 35)).alloc (by simp) (.cells (sec.map B).toArray 22)).alloc (by simp; omega) (.cells Tryd.zeroCells35 35)
  rw [hz2] at hZ
  rw [hz1] at hS
  have HK1 := Lib.hid (hK.below hb (Nat.le_refl _))
  have hm : (k.drop 44).length = 32 := by rw [List.length_drop, hkl]
  have hDl := hD.len
  have hres : (a ++ b ++ c).take 44 ++ k.drop 44 ++ (a ++ b ++ c).drop 76 = a ++ b ++ k.drop 44 := by
    have hab : (a ++ b).length = 44 := by rw [List.length_append, hD.ha.len, hD.hb.len]
    have hnil : (a ++ b ++ c).drop 76 = [] := List.drop_eq_nil_of_le (by omega)
    rw [List.take_left' hab, hnil, List.append_nil]
  obtain ⟨D, hDe⟩ : ∃ D, a ++ b ++ c = D := ⟨_, rfl⟩
  obtain ⟨M, hM⟩ : ∃ M, k.drop 44 = M := ⟨_, rfl⟩
  obtain ⟨R, hR⟩ : ∃ R, a ++ b ++ M = R := ⟨_, rfl⟩
  have hmid := hA.mid 44
  rw [hDe, hM, hR] at hres
  rw [hDe] at hDl
  rw [hM] at hm hmid ⊢
  rw [hR]
  have hRl : R.length = 76 := by rw [← hR, List.length_append, List.length_append, hD.ha.len, hD.hb.len, hm]
  have HDe := Lib.hid hDe
  have Hres := Lib.hid hres
  have hj32 := Lib.hid (len32 hsl)
  have hm32 := Lib.hid (len32 hm)
  have hR76 := Lib.hid (show (Tryd.prog.info? 35).map (·.size) = some (R.map B).length by rw [List.length_map, hRl]; exact k76)
  have Hi2 := Lib.hid (show (Tryd.prog.info? 35).map (·.size) = some (R.map B).toArray.size by rw [List.size_toArray, List.length_map, hRl]; exact k76)
  clear hK hz1 hz2 hDe hM hR hres
  go_enter Tryd.func17, Tryd.ntmps17
  go_upto_region 1 with (fail)
  generalize (World.alloc _ _) = W1 at *
  have hr := hS.range
  go_upto_region 2 with (first
    | (refine wpList_load_mid rfl _ _ rfl _ _ rfl (sec.map B) _ hr Tryd.underlying22 rfl hj32.out ?_)
    | (go_at_call 14; refine (draw_any _ hsl hD HK1.out).mono ?_; rw [HDe.out]; rintro e w2 ⟨rfl, B2⟩)
    | (refine L_storeA rfl _ _ _ rfl rfl rfl (AB_zeros35 _ rfl) k76 (by simp) hDl ?_; intro w3 hA3 hg3))
  have hs2 := B2.size
  have b3 : Below W1.heap.size W1 w3 := (B2.alloc hs2 _).grown hg3 (by simp; omega) (fun k hk => by cases hk; exact hs2)
  have hmid3 := range_bel hmid b3 hA.lt
  have hZ3 := hZ.bel b3 hZ.lt
  have hg2 := hZ.lt
  go_wp2_with (first
    | (refine wpList_load_mid rfl _ _ rfl _ _ rfl (M.map B) _ hmid3 Tryd.underlying22 rfl hm32.out ?_)
    | (refine L_storeMid rfl _ _ _ rfl rfl rfl hA3 i32 (by omega) hm ?_; rw [Hres.out]; intro w4 hA4 hg4; have hZ4 := hZ3.grown hg4 (by simp; omega); have hr4 := hA4.range)
    | (refine wpList_load_mid rfl _ _ rfl _ _ rfl (R.map B) _ hr4 Tryd.underlying35 rfl hR76.out ?_)
    | (refine L_storeA rfl _ _ _ rfl rfl rfl hZ4 k76 (by simp) hRl ?_; intro w5 hA5 hg5))
  refine bodyPost_ret_by (results_cell_row rfl _ _ _ _ _ _ _ rfl hA5 Tryd.underlying35 rfl Hi2.out) rfl ⟨rfl, ?_⟩
  have hbw := hb.trans (b3.mono hb.size)
  have hs3 := b3.size
  have hb4 := hbw.grown hg4 hbw.size (fun k hk => by cases hk; have := hb.size; omega)
  exact hb4.grown hg5 hb4.size (fun k hk => by cases hk; omega)
end Go.Proofs.YtlncnjcbgfeaoaaDoor

/- (Keys).nonce, parcel.bits, parcel.number. -/
set_option maxRecDepth 100000
set_option linter.unusedVariables false
namespace Go.Proofs.YtlncnjcbgfeaoaaDoor
open Go.RowKit
theorem rng_parts {w : World} {g : Nat} {a b c : List UInt8} (h : w.rangeAt g 0 ((a ++ b ++ c).map B)) (ha : a.length = 32) (hb : b.length = 12) :
    w.rangeAt g 0 (a.map B) ∧ w.rangeAt g 32 (b.map B) ∧ w.rangeAt g 44 (c.map B) := by
  have h1 := rng_take h 32
  have h2 := rng_drop h 32
  have h3 := rng_take h2 12
  have h4 := rng_drop h 44
  rw [List.append_assoc, List.take_left' ha] at h1
  rw [List.append_assoc, List.drop_left' ha, List.take_left' hb] at h3
  rw [List.drop_left' (by rw [List.length_append, ha, hb])] at h4
  rw [Nat.zero_add] at h3 h4
  exact ⟨h1, h3, h4⟩
theorem i12' : (Tryd.prog.info? 31).map (·.size) = some 12 := by kernel_rfl
theorem AB.dr {w : World} {g : Nat} {t : TypeId} {vs : List UInt8} (h : AB w g t vs) : AB w.drew g t vs := h
def z12 : List UInt8 := List.replicate 12 0
set_option maxHeartbeats 4000000 in
theorem nonce_any (w : World) {a b c d : List UInt8} (ha : a.length = 32) (hb : b.length = 12) (pn : Nat) (hpn : pn < 18446744073709551616) (hD : NON b pn d) :
    Calls Tryd.prog 36 #[.agg ((a ++ b ++ c).map B).toArray, .int .u64 (pn : Int)] w fun e w' => e = .returned (.agg (d.map B).toArray) ∧ Below w.heap.size w w' := by
  obtain ⟨D, hDe⟩ : ∃ D, a ++ b ++ c = D := ⟨_, rfl⟩
  have hz1 : (w.alloc (.cells (D.map B).toArray 35)).heap.size = w.heap.size + 1 := by simp
  have hA := (AB_box w 35 D).al (.cells #[.int .u8 0, .int .u8 0, .int .u8 0, .int .u8 0, .int .u8 0, .int .u8 0, .int .u8 0, .int .u8 0, .int .u8 0, .int .u8 0, .int .u8 0, .int .u8 0] 31)
  have hO : AB ((w.alloc (.cells (D.map B).toArray 35)).alloc (.cells #[.int .u8 0, .int .u8 0, .int .u8 0, .int .u8 0, .int .u8 0, .int .u8 0, .int .u8 0, .int .u8 0, .int .u8 0, .int .u8 0, .int .u8 0, .int .u8 0] 31)) (w.alloc (.cells (D.map B).toArray 35)).heap.size 31 z12 := heap_alloc_new _ _
  have hbl : Below w.heap.size w _ := (below_alloc w (.cells (D.map B).toArray 35)).alloc (by simp) (.cells #[.int .u8 0, .int .u8 0, .int .u8 0, .int .u8 0, .int .u8 0, .int .u8 0, .int .u8 0, .int .u8 0, .int .u8 0, .int .u8 0, .int .u8 0, .int .u8 0] 31)
  rw [hz1] at hO
  have hpr := fun (w' : World) (h : w'.rangeAt w.heap.size 0 (D.map B)) => (rng_parts (a := a) (b := b) (c := c) (by rw [hDe]; exact h) ha hb).2.1
  have hs12 : (Tryd.prog.info? 31).map (·.size) = some (b.map B).length := by rw [List.length_map, hb]; exact i12'
  rw [hDe]
  clear hz1 hDe
  have hdl : d.length = 12 := by rw [hD.len, hb]
  have hi2 := Lib.hid (show (Tryd.prog.info? 31).map (·.size) = some (d.map B).toArray.size by rw [List.size_toArray, List.length_map, hdl]; exact i12')
  have Hdl := Lib.hid hdl
  have HD := Lib.hid hD
  clear hdl hD
  go_enter Tryd.func36, Tryd.ntmps36
  go_upto_region 1 with (fail)
  generalize (World.alloc _ _) = W1 at *
  have l0 := hA.lt
  have l1 := hO.lt
  have rB := hpr W1 hA.rng
  have hu12 := Tryd.underlying31
  have HO := Lib.hid hO
  have HB := Lib.hid hbl
  have hbs := hbl.size
  clear hA hO hbl hpr
  go_upto_region 2 with (first
    | (refine wpList_load_mid rfl _ _ rfl _ _ rfl (b.map B) _ rB hu12 rfl hs12 ?_)
    | (refine L_storeAB rfl _ _ _ rfl rfl rfl (show AB (W1.alloc _) W1.heap.size 31 z12 from heap_alloc_new W1 _) i12' (by simp [z12]) hb ?_; intro w4 hb4 hg4))
  have hO4 : AB w4 (w.heap.size + 1) 31 z12 := (HO.out.al _).grown hg4 (by simp; omega)
  have b4 : Below w.heap.size w w4 := (HB.out.alloc hbs _).grown hg4 (by simp; omega) (fun k hk => by cases hk; exact hbs)
  obtain ⟨g, hg⟩ : ∃ g, W1.heap.size = g := ⟨_, rfl⟩
  rw [hg] at hb4 l1 hbs ⊢
  have l4 := hb4.lt
  have HO4 := Lib.hid hO4
  have HB4 := Lib.hid b4
  have hb4' : AB w4 g 31 (nonJ b pn 0) := hb4
  clear hO4 b4 hg4 HO HB rB hg hb4
  go_wp2
  go_loopw [9] (fun s9 wr => ∃ i : Nat, i ≤ 8 ∧ s9 = .int .i64 (i : Int) ∧ AB wr g 31 (nonJ b pn i) ∧ w4.grownBy wr (some g)) (fun s9 _ => 8 - (intOf s9).toNat)
  case atStart => exact ⟨0, by omega, rfl, hb4', World.grownBy.refl w4 _⟩
  case round =>
    obtain ⟨i, hi, rfl, hA5, hG5⟩ := hrel
    clear hb4'
    by_cases hlt : i < 8
    · obtain ⟨x, hx⟩ : ∃ x, (nonJ b pn i)[11 - i]? = some x := ⟨_, List.getElem?_eq_getElem (by rw [nonJ_len]; omega)⟩
      have hxl := x.toNat_lt
      have q0 : wr.cell? ⟨g, 11 - i, none⟩ = some (.int .u8 (x.toNat : Int)) := hA5.cell _ x hx
      have f0 := hA5.fr (11 - i)
      have h2 := hA5.set_ (11 - i) (x ^^^ UInt8.ofNat (pn / 256 ^ i))
      have e2 : (nonJ b pn i).set (11 - i) (x ^^^ UInt8.ofNat (pn / 256 ^ i)) = nonJ b pn (i + 1) := by
        rw [nonJ, List.getD_eq_getElem?_getD, hx]; rfl
      rw [e2] at h2
      have g2 := grown_set hG5 (11 - i) (B (x ^^^ UInt8.ofNat (pn / 256 ^ i)))
      have H2 := Lib.hid h2.dr
      have G2 := Lib.hid (grown_drew g2)
      have hi8 : i = 0 ∨ i = 1 ∨ i = 2 ∨ i = 3 ∨ i = 4 ∨ i = 5 ∨ i = 6 ∨ i = 7 := by omega
      clear hx hA5 hG5 h2 g2 e2
      rcases hi8 with rfl | rfl | rfl | rfl | rfl | rfl | rfl | rfl
      · obtain ⟨y, hy⟩ : ∃ y : Nat, ((pn : Int) % 256) = (y : Int) ∧ y < 256 ∧ UInt8.ofNat (pn / 256 ^ 0) = UInt8.ofNat y := by
          refine ⟨pn / 256 ^ 0 % 256, by omega, by omega, ?_⟩
          apply UInt8.toNat_inj.1; simp
        obtain ⟨hy1, hy2, hy3⟩ := hy
        have hxor := u8_xor_nat x.toNat y hxl hy2
        obtain ⟨z, hz⟩ : ∃ z, x.toNat ^^^ y = z := ⟨_, rfl⟩
        have hv : B (x ^^^ UInt8.ofNat (pn / 256 ^ 0)) = .int .u8 (z : Int) := by
          rw [hy3, ← hz]; simp only [B, UInt8.toNat_xor, UInt8.toNat_ofNat', Nat.mod_eq_of_lt hy2]
        rw [hz] at hxor
        rw [hv] at H2 G2
        rw [show 11 - 0 = 11 from rfl] at q0 f0 H2 G2
        clear hv hy3 hz
        rw [show ((0 : Nat) : Int) = 0 from rfl]
        go_upto_region 5 with (fail)
        go_region
        all_goals
          clear q0 f0 hxor
          generalize World.drew _ = W7 at *
          go_wp2
          go_roundw
          case rel => exact ⟨0 + 1, by omega, rfl, H2.out, G2.out⟩
          case measure => simp [intOf]
      · obtain ⟨y, hy⟩ : ∃ y : Nat, ((pn : Int) / 256 % 256) = (y : Int) ∧ y < 256 ∧ UInt8.ofNat (pn / 256 ^ 1) = UInt8.ofNat y := by
          refine ⟨pn / 256 ^ 1 % 256, by omega, by omega, ?_⟩
          apply UInt8.toNat_inj.1; simp
        obtain ⟨hy1, hy2, hy3⟩ := hy
        have hxor := u8_xor_nat x.toNat y hxl hy2
        obtain ⟨z, hz⟩ : ∃ z, x.toNat ^^^ y = z := ⟨_, rfl⟩
        have hv : B (x ^^^ UInt8.ofNat (pn / 256 ^ 1)) = .int .u8 (z : Int) := by
          rw [hy3, ← hz]; simp only [B, UInt8.toNat_xor, UInt8.toNat_ofNat', Nat.mod_eq_of_lt hy2]
        rw [hz] at hxor
        rw [hv] at H2 G2
        rw [show 11 - 1 = 10 from rfl] at q0 f0 H2 G2
        clear hv hy3 hz
        rw [show ((1 : Nat) : Int) = 1 from rfl]
        go_upto_region 5 with (fail)
        go_region
        all_goals
          clear q0 f0 hxor
          generalize World.drew _ = W7 at *
          go_wp2
          go_roundw
          case rel => exact ⟨1 + 1, by omega, rfl, H2.out, G2.out⟩
          case measure => simp [intOf]
      · obtain ⟨y, hy⟩ : ∃ y : Nat, ((pn : Int) / 65536 % 256) = (y : Int) ∧ y < 256 ∧ UInt8.ofNat (pn / 256 ^ 2) = UInt8.ofNat y := by
          refine ⟨pn / 256 ^ 2 % 256, by omega, by omega, ?_⟩
          apply UInt8.toNat_inj.1; simp
        obtain ⟨hy1, hy2, hy3⟩ := hy
        have hxor := u8_xor_nat x.toNat y hxl hy2
        obtain ⟨z, hz⟩ : ∃ z, x.toNat ^^^ y = z := ⟨_, rfl⟩
        have hv : B (x ^^^ UInt8.ofNat (pn / 256 ^ 2)) = .int .u8 (z : Int) := by
          rw [hy3, ← hz]; simp only [B, UInt8.toNat_xor, UInt8.toNat_ofNat', Nat.mod_eq_of_lt hy2]
        rw [hz] at hxor
        rw [hv] at H2 G2
        rw [show 11 - 2 = 9 from rfl] at q0 f0 H2 G2
        clear hv hy3 hz
        rw [show ((2 : Nat) : Int) = 2 from rfl]
        go_upto_region 5 with (fail)
        go_region
        all_goals
          clear q0 f0 hxor
          generalize World.drew _ = W7 at *
          go_wp2
          go_roundw
          case rel => exact ⟨2 + 1, by omega, rfl, H2.out, G2.out⟩
          case measure => simp [intOf]
      · obtain ⟨y, hy⟩ : ∃ y : Nat, ((pn : Int) / 16777216 % 256) = (y : Int) ∧ y < 256 ∧ UInt8.ofNat (pn / 256 ^ 3) = UInt8.ofNat y := by
          refine ⟨pn / 256 ^ 3 % 256, by omega, by omega, ?_⟩
          apply UInt8.toNat_inj.1; simp
        obtain ⟨hy1, hy2, hy3⟩ := hy
        have hxor := u8_xor_nat x.toNat y hxl hy2
        obtain ⟨z, hz⟩ : ∃ z, x.toNat ^^^ y = z := ⟨_, rfl⟩
        have hv : B (x ^^^ UInt8.ofNat (pn / 256 ^ 3)) = .int .u8 (z : Int) := by
          rw [hy3, ← hz]; simp only [B, UInt8.toNat_xor, UInt8.toNat_ofNat', Nat.mod_eq_of_lt hy2]
        rw [hz] at hxor
        rw [hv] at H2 G2
        rw [show 11 - 3 = 8 from rfl] at q0 f0 H2 G2
        clear hv hy3 hz
        rw [show ((3 : Nat) : Int) = 3 from rfl]
        go_upto_region 5 with (fail)
        go_region
        all_goals
          clear q0 f0 hxor
          generalize World.drew _ = W7 at *
          go_wp2
          go_roundw
          case rel => exact ⟨3 + 1, by omega, rfl, H2.out, G2.out⟩
          case measure => simp [intOf]
      · obtain ⟨y, hy⟩ : ∃ y : Nat, ((pn : Int) / 4294967296 % 256) = (y : Int) ∧ y < 256 ∧ UInt8.ofNat (pn / 256 ^ 4) = UInt8.ofNat y := by
          refine ⟨pn / 256 ^ 4 % 256, by omega, by omega, ?_⟩
          apply UInt8.toNat_inj.1; simp
        obtain ⟨hy1, hy2, hy3⟩ := hy
        have hxor := u8_xor_nat x.toNat y hxl hy2
        obtain ⟨z, hz⟩ : ∃ z, x.toNat ^^^ y = z := ⟨_, rfl⟩
        have hv : B (x ^^^ UInt8.ofNat (pn / 256 ^ 4)) = .int .u8 (z : Int) := by
          rw [hy3, ← hz]; simp only [B, UInt8.toNat_xor, UInt8.toNat_ofNat', Nat.mod_eq_of_lt hy2]
        rw [hz] at hxor
        rw [hv] at H2 G2
        rw [show 11 - 4 = 7 from rfl] at q0 f0 H2 G2
        clear hv hy3 hz
        rw [show ((4 : Nat) : Int) = 4 from rfl]
        go_upto_region 5 with (fail)
        go_region
        all_goals
          clear q0 f0 hxor
          generalize World.drew _ = W7 at *
          go_wp2
          go_roundw
          case rel => exact ⟨4 + 1, by omega, rfl, H2.out, G2.out⟩
          case measure => simp [intOf]
      · obtain ⟨y, hy⟩ : ∃ y : Nat, ((pn : Int) / 1099511627776 % 256) = (y : Int) ∧ y < 256 ∧ UInt8.ofNat (pn / 256 ^ 5) = UInt8.ofNat y := by
          refine ⟨pn / 256 ^ 5 % 256, by omega, by omega, ?_⟩
          apply UInt8.toNat_inj.1; simp
        obtain ⟨hy1, hy2, hy3⟩ := hy
        have hxor := u8_xor_nat x.toNat y hxl hy2
        obtain ⟨z, hz⟩ : ∃ z, x.toNat ^^^ y = z := ⟨_, rfl⟩
        have hv : B (x ^^^ UInt8.ofNat (pn / 256 ^ 5)) = .int .u8 (z : Int) := by
          rw [hy3, ← hz]; simp only [B, UInt8.toNat_xor, UInt8.toNat_ofNat', Nat.mod_eq_of_lt hy2]
        rw [hz] at hxor
        rw [hv] at H2 G2
        rw [show 11 - 5 = 6 from rfl] at q0 f0 H2 G2
        clear hv hy3 hz
        rw [show ((5 : Nat) : Int) = 5 from rfl]
        go_upto_region 5 with (fail)
        go_region
        all_goals
          clear q0 f0 hxor
          generalize World.drew _ = W7 at *
          go_wp2
          go_roundw
          case rel => exact ⟨5 + 1, by omega, rfl, H2.out, G2.out⟩
          case measure => simp [intOf]
      · obtain ⟨y, hy⟩ : ∃ y : Nat, ((pn : Int) / 281474976710656 % 256) = (y : Int) ∧ y < 256 ∧ UInt8.ofNat (pn / 256 ^ 6) = UInt8.ofNat y := by
          refine ⟨pn / 256 ^ 6 % 256, by omega, by omega, ?_⟩
          apply UInt8.toNat_inj.1; simp
        obtain ⟨hy1, hy2, hy3⟩ := hy
        have hxor := u8_xor_nat x.toNat y hxl hy2
        obtain ⟨z, hz⟩ : ∃ z, x.toNat ^^^ y = z := ⟨_, rfl⟩
        have hv : B (x ^^^ UInt8.ofNat (pn / 256 ^ 6)) = .int .u8 (z : Int) := by
          rw [hy3, ← hz]; simp only [B, UInt8.toNat_xor, UInt8.toNat_ofNat', Nat.mod_eq_of_lt hy2]
        rw [hz] at hxor
        rw [hv] at H2 G2
        rw [show 11 - 6 = 5 from rfl] at q0 f0 H2 G2
        clear hv hy3 hz
        rw [show ((6 : Nat) : Int) = 6 from rfl]
        go_upto_region 5 with (fail)
        go_region
        all_goals
          clear q0 f0 hxor
          generalize World.drew _ = W7 at *
          go_wp2
          go_roundw
          case rel => exact ⟨6 + 1, by omega, rfl, H2.out, G2.out⟩
          case measure => simp [intOf]
      · obtain ⟨y, hy⟩ : ∃ y : Nat, ((pn : Int) / 72057594037927936) = (y : Int) ∧ y < 256 ∧ UInt8.ofNat (pn / 256 ^ 7) = UInt8.ofNat y := by
          refine ⟨pn / 256 ^ 7 % 256, by omega, by omega, ?_⟩
          apply UInt8.toNat_inj.1; simp
        obtain ⟨hy1, hy2, hy3⟩ := hy
        have hxor := u8_xor_nat x.toNat y hxl hy2
        obtain ⟨z, hz⟩ : ∃ z, x.toNat ^^^ y = z := ⟨_, rfl⟩
        have hv : B (x ^^^ UInt8.ofNat (pn / 256 ^ 7)) = .int .u8 (z : Int) := by
          rw [hy3, ← hz]; simp only [B, UInt8.toNat_xor, UInt8.toNat_ofNat', Nat.mod_eq_of_lt hy2]
        rw [hz] at hxor
        rw [hv] at H2 G2
        rw [show 11 - 7 = 4 from rfl] at q0 f0 H2 G2
        clear hv hy3 hz
        rw [show ((7 : Nat) : Int) = 7 from rfl]
        go_upto_region 5 with (fail)
        go_region
        all_goals
          clear q0 f0 hxor
          generalize World.drew _ = W7 at *
          go_wp2
          go_roundw
          case rel => exact ⟨7 + 1, by omega, rfl, H2.out, G2.out⟩
          case measure => simp [intOf]
    · obtain rfl : i = 8 := by omega
      rw [HD.out.h] at hA5
      have rD := hA5.rng
      have hs := i12'
      have hO9 := HO4.out.grown hG5 (by simp; omega)
      have b9 := HB4.out.grown hG5 HB4.out.size (fun k hk => by cases hk; omega)
      have HB9 := Lib.hid b9
      have hsd : (Tryd.prog.info? 31).map (·.size) = some (d.map B).length := by rw [List.length_map, Hdl.out]; exact i12'
      clear hA5 hG5 b9 hs
      go_wp2_with (first
        | (refine wpList_load_mid rfl _ _ rfl _ _ rfl (d.map B) _ rD hu12 rfl hsd ?_)
        | (refine L_storeAB rfl _ _ _ rfl rfl rfl hO9 i12' (by simp [z12]) Hdl.out ?_; intro w10 hT hg10))
      refine bodyPost_ret_by (results_cell_row rfl _ _ _ _ _ _ _ rfl hT Tryd.underlying31 rfl hi2.out) rfl ⟨rfl, ?_⟩
      exact HB9.out.grown hg10 HB9.out.size (fun k hk => by cases hk; omega)
theorem and_128 : ∀ x, x < 256 → (x &&& 128 = 0 ↔ x < 128) := by decide +kernel
theorem u8_and_nat' (x y : Nat) (hx : x < 256) (hy : y < 256) : bits .and .u8 (x : Int) (y : Int) = ((x &&& y : Nat) : Int) := u8_and_nat x y hx hy
theorem bits_lo (w : World) (x : Nat) (hx : x < 128) : Calls Tryd.prog 37 #[.int .u8 (x : Int)] w fun e w' => e = .returned (.int .u8 31) ∧ w = w' := by
  have h := u8_and_nat x 128 (by omega) (by decide)
  rw [(and_128 x (by omega)).2 hx] at h
  have h2 : bits .and .u8 (x : Int) 128 = 0 := h
  go_enter Tryd.func37, Tryd.ntmps37
  go_wp2
  go_ret
  exact ⟨rfl, rfl⟩
theorem bits_hi (w : World) (x : Nat) (hx : x < 256) (h8 : 128 ≤ x) : Calls Tryd.prog 37 #[.int .u8 (x : Int)] w fun e w' => e = .returned (.int .u8 15) ∧ w = w' := by
  have h := u8_and_nat x 128 (by omega) (by decide)
  obtain ⟨y, hy⟩ : ∃ y, x &&& 128 = y := ⟨_, rfl⟩
  have hy0 : y ≠ 0 := fun h0 => by have := (and_128 x hx).1 (by omega); omega
  rw [hy] at h
  have h2 : bits .and .u8 (x : Int) 128 = (y : Int) := h
  have h3 : (y : Int) ≠ 0 := by omega
  clear hy h
  go_enter Tryd.func37, Tryd.ntmps37
  go_wp2
  go_ret
  exact ⟨rfl, rfl⟩
theorem or_be (n x : Nat) (hn : n < 72057594037927936) (hx : x < 256) : bits .or .u64 ((n : Int) * 256) (x : Int) = ((n * 256 + x : Nat) : Int) := by
  rw [show ((n : Int) * 256) = ((n * 256 : Nat) : Int) by omega, u64_or_nat _ _ (by omega) (by omega), show n * 256 = n * 2 ^ 8 by omega, nat_join 8 _ _ (by omega) (by omega)]
theorem number_any (w : World) {a : Option Addr} {n c : Nat} {xs : List UInt8} (hx : BS w a n c xs) (hn : n ≤ 4) :
    Calls Tryd.prog 34 #[.slice a n c] w fun e w' => e = .returned (.int .u64 (beNat xs 0 : Int)) ∧ w = w' := by
  have hl := BS.len hx
  have hx' := Lib.hid hx
  have hmx := RS.le hx
  have hmm := RS.max hx
  unfold maxLen at hmm
  clear hx
  go_enter Tryd.func34, Tryd.ntmps34
  go_wp2
  go_loopw [8, 3] (fun s8 s3 wr => ∃ i : Nat, i ≤ n ∧ s8 = .int .i64 (i : Int) ∧ s3 = .int .u64 (beNat (xs.take i) 0 : Int) ∧ wr = w) (fun s8 _ _ => n - (intOf s8).toNat)
  case atStart => exact ⟨0, by omega, rfl, rfl, rfl⟩
  case round =>
    obtain ⟨i, hi, rfl, rfl, rfl⟩ := hrel
    have hb := beNat_lt' (xs.take i) 0 (by omega) (by rw [List.length_take]; omega)
    by_cases hlt : i < n
    · obtain ⟨b, hb2⟩ := BS.get hx'.out i hlt
      have hsn := take_head_snoc xs i 0 b hb2
      have hbl := b.toNat_lt
      obtain ⟨m, hm⟩ : ∃ m, beNat (xs.take i) 0 = m := ⟨_, rfl⟩
      rw [hm] at hb hsn ⊢
      have hb56 : m < 16777216 := by
        have h := beNat_lt (xs.take i) 0
        rw [hm, List.length_take] at h
        have h2 : 256 ^ (min i xs.length) ≤ 256 ^ 3 := Nat.pow_le_pow_right (by omega) (by omega)
        omega
      have hor := or_be m b.toNat (by omega) hbl
      have Hsn := Lib.hid hsn
      clear hm hsn
      go_wp2_with (refine LB_index tB hx'.out b _ _ rfl rfl _ _ rfl rfl (by omega) (by omega) (by rw [Int.toNat_natCast]; exact hb2) ?_; intro q hq)
      go_roundw
      case rel => exact ⟨i + 1, by omega, by go_num, by rw [Hsn.out, Int.natCast_add, Int.natCast_mul]; rfl, trivial⟩
      case measure => simp [intOf]; omega
    · obtain rfl : i = n := by omega
      rw [List.take_of_length_le (by omega)]
      go_wp2
      go_ret
      exact ⟨rfl, rfl⟩
end Go.Proofs.YtlncnjcbgfeaoaaDoor

/- parcel.mask; the reference's power, Grow, nonce. -/
set_option maxRecDepth 100000
set_option linter.unusedVariables false
namespace Go.Proofs.YtlncnjcbgfeaoaaDoor
open Go.RowKit
theorem i16' : (Tryd.prog.info? 92).map (·.size) = some 16 := by kernel_rfl
set_option maxHeartbeats 4000000 in
theorem pmask_any (w : World) {a : Option Addr} {n c t : Nat} {key q m : List UInt8} (hkl : key.length = 32) (hq : BS w a n c q) (ht : t + 20 ≤ n) (hD : MSK key ((q.drop (t + 4)).take 16) m) :
    Calls Tryd.prog 47 #[.slice a n c, .int .i64 (t : Int), .agg (key.map B).toArray] w fun x w' => x = .returned (.agg (m.map B).toArray) ∧ Below w.heap.size w w' := by
  have hml := hD.len
  have hqc := RS.le hq
  have hmm := RS.max hq
  unfold maxLen at hmm
  have hql := BS.len hq
  obtain ⟨s, hs⟩ : ∃ s, (q.drop (t + 4)).take 16 = s := ⟨_, rfl⟩
  have hsl' : s.length = 16 := by rw [← hs, List.length_take, List.length_drop]; omega
  rw [hs] at hD
  have hz1 : (w.alloc (.cells (key.map B).toArray 22)).heap.size = w.heap.size + 1 := by simp
  have hA := (AB_box w 22 key).al (.cells #[.int .u8 0, .int .u8 0, .int .u8 0, .int .u8 0, .int .u8 0] 84)
  have hO : AB ((w.alloc (.cells (key.map B).toArray 22)).alloc (.cells #[.int .u8 0, .int .u8 0, .int .u8 0, .int .u8 0, .int .u8 0] 84)) (w.alloc (.cells (key.map B).toArray 22)).heap.size 84 z5 := heap_alloc_new _ _
  have hbl : Below w.heap.size w _ := (below_alloc w (.cells (key.map B).toArray 22)).alloc (by simp) (.cells #[.int .u8 0, .int .u8 0, .int .u8 0, .int .u8 0, .int .u8 0] 84)
  have hq1 := (RS.alloc hq (.cells (key.map B).toArray 22)).alloc (.cells #[.int .u8 0, .int .u8 0, .int .u8 0, .int .u8 0, .int .u8 0] 84)
  rw [hz1] at hO
  obtain ⟨ab, ao, rfl, hc⟩ := hq1.at_ (by omega)
  obtain ⟨rS, lab⟩ : (∀ (W : World), BS W (some ⟨ab, ao, none⟩) n c q → W.rangeAt ab (ao + (t + 4)) (s.map B)) ∧ ab < w.heap.size := by
    refine ⟨fun W h => ?_, RS.block_lt hq rfl (by omega) (by omega)⟩
    have hr : W.rangeAt ab ao (q.map B) := fun j v hv => by
      have := (h.2.2.2.2.2 _ rfl).2 j v hv
      exact this
    have := rng_take (rng_drop hr (t + 4)) 16
    rw [hs] at this; exact this
  obtain ⟨u, hu⟩ : ∃ u, t + 4 = u := ⟨_, rfl⟩
  obtain ⟨v, hv⟩ : ∃ v, u + 16 = v := ⟨_, rfl⟩
  have hui : (t : Int) + 4 = (u : Int) := by omega
  have hvi : (u : Int) + 16 = (v : Int) := by omega
  obtain ⟨e, he⟩ : ∃ e, c - u = e := ⟨_, rfl⟩
  have he16 : 16 ≤ e := by omega
  have hsl : ∀ W, (Instr.slice 23 (.slice (some ⟨ab, ao, none⟩) n c) (some (.int .i64 (u : Int))) (some (.int .i64 (v : Int))) none).run Tryd.prog W = .ok (.slice (some ⟨ab, ao + u, none⟩) 16 e) W := by
    intro W
    have hz : (Go.sizeOf (Tryd.prog.elem 23)).run Tryd.prog W = .ok 1 W := tB.sizeOf
    rw [run_slice_lh W 23 _ _ _ tB.und' .i64 .i64 _ _ (by omega) (by omega) (by omega), hz]
    simp only [Result.andThen, Int.toNat_natCast]
    rw [sliced_eq, if_neg (by omega), ← hv, ← he]
    simp [Addr.add]
    omega
  rw [hu] at rS
  have hs32 : (Tryd.prog.info? 22).map (·.size) = some (key.map B).length := by rw [List.length_map, hkl]; kernel_rfl
  have hs16 : (Tryd.prog.info? 92).map (·.size) = some (s.map B).length := by rw [List.length_map, hsl']; exact i16'
  have hi2 := Lib.hid (show (Tryd.prog.info? 84).map (·.size) = some (m.map B).toArray.size by rw [List.size_toArray, List.length_map, hml]; exact i5)
  have hun : (u : Int) ≤ (v : Int) := by omega
  have hvn : (v : Int) ≤ (n : Int) := by omega
  have Hmk := Lib.hid (fun w' => mask_any w' hkl hsl' hD)
  have wu : IntKind.i64.wrap (u : Int) = (u : Int) := IntWalk.i64_in _ (by omega)
  have wv : IntKind.i64.wrap (v : Int) = (v : Int) := IntWalk.i64_in _ (by omega)
  clear hz1 hs hu hv he hc hq hmm hqc hql hD
  go_enter Tryd.func47, Tryd.ntmps47
  go_upto_region 1 with (fail)
  generalize (World.alloc _ _) = W1 at *
  have l0 := hA.lt
  have l1 := hO.lt
  have hbs := hbl.size
  have lab1 : ab < W1.heap.size := Nat.lt_of_lt_of_le lab hbs
  have rA : W1.drew.rangeAt w.heap.size 0 (key.map B) := hA.rng
  have rS1 : W1.drew.rangeAt ab (ao + u) (s.map B) := rS W1 hq1
  have hu32 := Tryd.underlying22
  have hu16 := Tryd.underlying92
  have p2 : ∀ w', (Instr.arrayAt 92 (.slice (some ⟨ab, ao + u, none⟩) 16 e)).run Tryd.prog w' = .ok (.pointer (some ⟨ab, ao + u, none⟩)) w' := run_arrAt hu16 _ 16 e (by decide)
  have HO := Lib.hid hO
  have HB := Lib.hid hbl
  clear hA hO hbl hq1 rS
  refine wp_region_noPanic ?_
  refine wp_region_held_drew (S := fun w' => w'.rangeAt w.heap.size 0 (key.map B) ∧ w'.rangeAt ab (ao + u) (s.map B)) (by kernel_rfl) ⟨rA, rS1⟩ (fun hHeld => ?_)
  refine wpAnyH_take (i := 0) rfl (by kernel_rfl) (by kernel_rfl) (by kernel_rfl) (fun _ _ _ h => h) (yieldsIf_load_mid (by rfl) _ _ rfl _ _ rfl _ _ (fun w h => h.1) hu32 rfl hs32) hHeld ?_
  try simp only [Act.put, List.getElem_toArray, List.getElem_cons_zero, List.setIfInBounds_toArray, List.set_cons_zero, List.set_cons_succ]
  refine wpAnyH_take (i := 1) (v := .slice (some ⟨ab, ao, none⟩) n c) rfl (by kernel_rfl) (by kernel_rfl) (by kernel_rfl) (fun _ _ _ h => h) (Or.inl ⟨by rfl, fun w h => by go_simp⟩) hHeld ?_
  try simp only [Act.put, List.getElem_toArray, List.getElem_cons_succ, List.getElem_cons_zero, List.setIfInBounds_toArray, List.set_cons_zero, List.set_cons_succ]
  refine wpAnyH_take (i := 2) (v := .int .i64 (t : Int)) rfl (by kernel_rfl) (by kernel_rfl) (by kernel_rfl) (fun _ _ _ h => h) (Or.inl ⟨by rfl, fun w h => by go_simp⟩) hHeld ?_
  try simp only [Act.put, List.getElem_toArray, List.getElem_cons_succ, List.getElem_cons_zero, List.setIfInBounds_toArray, List.set_cons_zero, List.set_cons_succ]
  refine wpAnyH_take (i := 3) (v := .int .i64 (u : Int)) rfl (by kernel_rfl) (by kernel_rfl) (by kernel_rfl) (fun _ _ _ h => h) (Or.inl ⟨by rfl, fun w h => by go_simp⟩) hHeld ?_
  try simp only [Act.put, List.getElem_toArray, List.getElem_cons_succ, List.getElem_cons_zero, List.setIfInBounds_toArray, List.set_cons_zero, List.set_cons_succ]
  refine wpAnyH_take (i := 4) (v := .int .i64 (t : Int)) rfl (by kernel_rfl) (by kernel_rfl) (by kernel_rfl) (fun _ _ _ h => h) (Or.inl ⟨by rfl, fun w h => by go_simp⟩) hHeld ?_
  try simp only [Act.put, List.getElem_toArray, List.getElem_cons_succ, List.getElem_cons_zero, List.setIfInBounds_toArray, List.set_cons_zero, List.set_cons_succ]
  refine wpAnyH_take (i := 5) (v := .int .i64 (u : Int)) rfl (by kernel_rfl) (by kernel_rfl) (by kernel_rfl) (fun _ _ _ h => h) (Or.inl ⟨by rfl, fun w h => by go_simp⟩) hHeld ?_
  try simp only [Act.put, List.getElem_toArray, List.getElem_cons_succ, List.getElem_cons_zero, List.setIfInBounds_toArray, List.set_cons_zero, List.set_cons_succ]
  refine wpAnyH_take (i := 6) (v := .int .i64 (v : Int)) rfl (by kernel_rfl) (by kernel_rfl) (by kernel_rfl) (fun _ _ _ h => h) (Or.inl ⟨by rfl, fun w h => by go_simp⟩) hHeld ?_
  try simp only [Act.put, List.getElem_toArray, List.getElem_cons_succ, List.getElem_cons_zero, List.setIfInBounds_toArray, List.set_cons_zero, List.set_cons_succ]
  refine wpAnyH_take (i := 7) (v := .slice (some ⟨ab, ao + u, none⟩) 16 e) rfl (by kernel_rfl) (by kernel_rfl) (by kernel_rfl) (fun _ _ _ h => h) (Or.inl ⟨by rfl, fun w h => by go_simp⟩) hHeld ?_
  try simp only [Act.put, List.getElem_toArray, List.getElem_cons_succ, List.getElem_cons_zero, List.setIfInBounds_toArray, List.set_cons_zero, List.set_cons_succ]
  refine wpAnyH_take (i := 8) (v := .pointer (some ⟨ab, ao + u, none⟩)) rfl (by kernel_rfl) (by kernel_rfl) (by kernel_rfl) (fun _ _ _ h => h) (Or.inl ⟨by rfl, fun w h => by go_simp⟩) hHeld ?_
  try simp only [Act.put, List.getElem_toArray, List.getElem_cons_succ, List.getElem_cons_zero, List.setIfInBounds_toArray, List.set_cons_zero, List.set_cons_succ]
  refine wpAnyH_take (i := 9) rfl (by kernel_rfl) (by kernel_rfl) (by kernel_rfl) (fun _ _ _ h => h) (yieldsIf_load_mid (by rfl) _ _ rfl _ _ rfl _ _ (fun w h => h.2) hu16 rfl hs16) hHeld ?_
  try simp only [Act.put, List.getElem_toArray, List.getElem_cons_succ, List.getElem_cons_zero, List.setIfInBounds_toArray, List.set_cons_zero, List.set_cons_succ]
  refine wpAnyH_ready (rs := [10]) (by kernel_rfl) (by simp) (AllReadyH.cons rfl (fun K hK => ?_) AllReadyH.nil)
  go_simp
  go_at_call 65
  refine (Hmk.out _).mono ?_
  rintro x w3 ⟨rfl, B3⟩
  have b3 : Below W1.heap.size W1 w3 := below_undrew B3
  refine hK.out _ _ ⟨rng_bel rA B3 l0, rng_bel rS1 B3 lab1⟩ (fun hHeld => ?_)
  clear hK K
  try simp only [Act.put, List.getElem_toArray, List.getElem_cons_succ, List.getElem_cons_zero, List.setIfInBounds_toArray, List.set_cons_zero, List.set_cons_succ]
  refine wpAnyH_ready (rs := [11]) (by kernel_rfl) (by simp) (AllReadyH.cons rfl (fun K hK => ?_) AllReadyH.nil)
  refine S_storeAB rfl _ _ _ rfl rfl rfl (HO.out.bl b3 l1) i5 (by simp [z5]) hml ?_
  intro w5 hT5 hg5
  have b5 := (HB.out.trans (b3.mono hbs)).grown hg5 (HB.out.trans (b3.mono hbs)).size (fun k hk => by cases hk; omega)
  refine hK.out _ _ ⟨?_, ?_⟩ (fun hHeld => ?_)
  · exact fun j v hv => (World.cell?_of_block (a := ⟨w.heap.size, 0 + j, none⟩) (hg5.block _ (Nat.lt_of_lt_of_le l0 b3.size) (by simp))).trans (rng_bel rA B3 l0 j v hv)
  · exact fun j v hv => (World.cell?_of_block (a := ⟨ab, ao + u + j, none⟩) (hg5.block _ (Nat.lt_of_lt_of_le lab1 b3.size) (by simp; omega))).trans (rng_bel rS1 B3 lab1 j v hv)
  clear hK K
  refine wpAnyH_done (by kernel_rfl) ?_ _
  refine NoPanic.normal ?_
  try simp only [Act.put, List.getElem_toArray, List.getElem_cons_succ, List.getElem_cons_zero]
  go_wp2
  exact bodyPost_ret_by (results_cell_row rfl _ _ _ _ _ _ _ rfl hT5 Tryd.underlying84 rfl hi2.out) rfl ⟨rfl, b5⟩
theorem power_any (w : World) (k : Nat) (h1 : 1 ≤ k) (h4 : k ≤ 4) : Calls Tryd.prog 44 #[.int .i64 (k : Int)] w fun e w' => e = .returned (.int .u64 ((256 ^ k : Nat) : Int)) ∧ Below w.heap.size w w' := by
  rcases (show k = 1 ∨ k = 2 ∨ k = 3 ∨ k = 4 by omega) with rfl | rfl | rfl | rfl
  · rw [show ((1 : Nat) : Int) = 1 from rfl]
    go_enter Tryd.func44, Tryd.ntmps44
    go_wp2
    go_ret
    exact ⟨rfl, below_alloc _ _⟩
  · rw [show ((2 : Nat) : Int) = 2 from rfl]
    go_enter Tryd.func44, Tryd.ntmps44
    go_wp2
    go_ret
    exact ⟨rfl, below_alloc _ _⟩
  · rw [show ((3 : Nat) : Int) = 3 from rfl]
    go_enter Tryd.func44, Tryd.ntmps44
    go_wp2
    go_ret
    exact ⟨rfl, below_alloc _ _⟩
  · rw [show ((4 : Nat) : Int) = 4 from rfl]
    go_enter Tryd.func44, Tryd.ntmps44
    go_wp2
    go_ret
    exact ⟨rfl, below_alloc _ _⟩
theorem rgrow_1a (largest cut : Int) (w : World) (h0 : 0 ≤ largest) (h1 : largest < 4611686018427387904) (h2 : 0 ≤ cut) (h3 : cut < 18446744073709551616) :
    Calls Tryd.prog 41 #[.int .u64 largest, .bool true, .int .u64 cut, .int .i64 1] w fun e w' => e = .returned (.int .u64 (growS (largest + 1) cut 256)) ∧ Below w.heap.size w w' := by
  have hp := power_any w 1 (by decide) (by decide)
  rw [show (((256 ^ 1 : Nat)) : Int) = 256 from rfl, show ((1 : Nat) : Int) = 1 from rfl] at hp
  have Hp := Lib.hid hp
  unfold growS
  obtain ⟨n, hn⟩ : ∃ n, (largest + 1) - (largest + 1) % 256 + cut % 256 = n := ⟨_, rfl⟩
  rw [hn, show (256 : Int) / 2 = 128 from rfl]
  have hn0 : 0 ≤ n := by omega
  have hn1 : n ≤ (largest + 1) + 256 := by omega
  clear hp
  by_cases c1 : n + 128 ≤ (largest + 1)
  · by_cases c2 : n < 4611686018427387904 - 256
    · rw [if_pos ⟨c1, c2⟩]
      go_enter Tryd.func41, Tryd.ntmps41
      go_upto_region 7 with (go_at_call 44; refine (Hp.out).mono ?_; rintro x w2 ⟨rfl, B2⟩)
      all_goals
        go_quiet (fail)
        go_wp2
        all_goals (go_ret; exact ⟨ret_int (by omega), below_drewN B2 _⟩)
    · rw [if_neg (by omega), if_neg (by omega)]
      go_enter Tryd.func41, Tryd.ntmps41
      go_upto_region 7 with (go_at_call 44; refine (Hp.out).mono ?_; rintro x w2 ⟨rfl, B2⟩)
      all_goals
        go_quiet (fail)
        go_wp2
        all_goals (go_ret; exact ⟨ret_int (by omega), below_drewN B2 _⟩)
  · rw [if_neg (by omega)]
    by_cases c2 : (largest + 1) + 128 < n
    · by_cases c3 : 256 ≤ n
      · rw [if_pos ⟨c2, c3⟩]
        go_enter Tryd.func41, Tryd.ntmps41
        go_upto_region 7 with (go_at_call 44; refine (Hp.out).mono ?_; rintro x w2 ⟨rfl, B2⟩)
        all_goals
          go_quiet (fail)
          go_wp2
          all_goals (go_ret; exact ⟨ret_int (by omega), below_drewN B2 _⟩)
      · rw [if_neg (by omega)]
        go_enter Tryd.func41, Tryd.ntmps41
        go_upto_region 7 with (go_at_call 44; refine (Hp.out).mono ?_; rintro x w2 ⟨rfl, B2⟩)
        all_goals
          go_quiet (fail)
          go_wp2
          all_goals (go_ret; exact ⟨ret_int (by omega), below_drewN B2 _⟩)
    · rw [if_neg (by omega)]
      go_enter Tryd.func41, Tryd.ntmps41
      go_upto_region 7 with (go_at_call 44; refine (Hp.out).mono ?_; rintro x w2 ⟨rfl, B2⟩)
      all_goals
        go_quiet (fail)
        go_wp2
        all_goals (go_ret; exact ⟨ret_int (by omega), below_drewN B2 _⟩)
theorem rgrow_1b (largest cut : Int) (w : World) (h0 : 4611686018427387904 ≤ largest) (h1 : largest < 18446744073709551616) (h2 : 0 ≤ cut) (h3 : cut < 18446744073709551616) :
    Calls Tryd.prog 41 #[.int .u64 largest, .bool true, .int .u64 cut, .int .i64 1] w fun e w' => e = .returned (.int .u64 (growS 4611686018427387904 cut 256)) ∧ Below w.heap.size w w' := by
  have hp := power_any w 1 (by decide) (by decide)
  rw [show (((256 ^ 1 : Nat)) : Int) = 256 from rfl, show ((1 : Nat) : Int) = 1 from rfl] at hp
  have Hp := Lib.hid hp
  unfold growS
  obtain ⟨n, hn⟩ : ∃ n, 4611686018427387904 - 4611686018427387904 % 256 + cut % 256 = n := ⟨_, rfl⟩
  rw [hn, show (256 : Int) / 2 = 128 from rfl]
  have hn0 : 0 ≤ n := by omega
  have hn1 : n ≤ 4611686018427387904 + 256 := by omega
  clear hp
  by_cases c1 : n + 128 ≤ 4611686018427387904
  · by_cases c2 : n < 4611686018427387904 - 256
    · rw [if_pos ⟨c1, c2⟩]
      go_enter Tryd.func41, Tryd.ntmps41
      go_upto_region 7 with (go_at_call 44; refine (Hp.out).mono ?_; rintro x w2 ⟨rfl, B2⟩)
      all_goals
        go_quiet (fail)
        go_wp2
        all_goals (go_ret; exact ⟨ret_int (by omega), below_drewN B2 _⟩)
    · rw [if_neg (by omega), if_neg (by omega)]
      go_enter Tryd.func41, Tryd.ntmps41
      go_upto_region 7 with (go_at_call 44; refine (Hp.out).mono ?_; rintro x w2 ⟨rfl, B2⟩)
      all_goals
        go_quiet (fail)
        go_wp2
        all_goals (go_ret; exact ⟨ret_int (by omega), below_drewN B2 _⟩)
  · rw [if_neg (by omega)]
    by_cases c2 : 4611686018427387904 + 128 < n
    · by_cases c3 : 256 ≤ n
      · rw [if_pos ⟨c2, c3⟩]
        go_enter Tryd.func41, Tryd.ntmps41
        go_upto_region 7 with (go_at_call 44; refine (Hp.out).mono ?_; rintro x w2 ⟨rfl, B2⟩)
        all_goals
          go_quiet (fail)
          go_wp2
          all_goals (go_ret; exact ⟨ret_int (by omega), below_drewN B2 _⟩)
      · rw [if_neg (by omega)]
        go_enter Tryd.func41, Tryd.ntmps41
        go_upto_region 7 with (go_at_call 44; refine (Hp.out).mono ?_; rintro x w2 ⟨rfl, B2⟩)
        all_goals
          go_quiet (fail)
          go_wp2
          all_goals (go_ret; exact ⟨ret_int (by omega), below_drewN B2 _⟩)
    · rw [if_neg (by omega)]
      go_enter Tryd.func41, Tryd.ntmps41
      go_upto_region 7 with (go_at_call 44; refine (Hp.out).mono ?_; rintro x w2 ⟨rfl, B2⟩)
      all_goals
        go_quiet (fail)
        go_wp2
        all_goals (go_ret; exact ⟨ret_int (by omega), below_drewN B2 _⟩)
theorem rgrow_1c (largest cut : Int) (w : World) (h0 : 0 ≤ largest) (h1 : largest < 18446744073709551616) (h2 : 0 ≤ cut) (h3 : cut < 18446744073709551616) :
    Calls Tryd.prog 41 #[.int .u64 largest, .bool false, .int .u64 cut, .int .i64 1] w fun e w' => e = .returned (.int .u64 (growS 0 cut 256)) ∧ Below w.heap.size w w' := by
  have hp := power_any w 1 (by decide) (by decide)
  rw [show (((256 ^ 1 : Nat)) : Int) = 256 from rfl, show ((1 : Nat) : Int) = 1 from rfl] at hp
  have Hp := Lib.hid hp
  unfold growS
  obtain ⟨n, hn⟩ : ∃ n, 0 - 0 % 256 + cut % 256 = n := ⟨_, rfl⟩
  rw [hn, show (256 : Int) / 2 = 128 from rfl]
  have hn0 : 0 ≤ n := by omega
  have hn1 : n ≤ 0 + 256 := by omega
  clear hp
  by_cases c1 : n + 128 ≤ 0
  · by_cases c2 : n < 4611686018427387904 - 256
    · rw [if_pos ⟨c1, c2⟩]
      go_enter Tryd.func41, Tryd.ntmps41
      go_upto_region 7 with (go_at_call 44; refine (Hp.out).mono ?_; rintro x w2 ⟨rfl, B2⟩)
      all_goals
        go_quiet (fail)
        go_wp2
        all_goals (go_ret; exact ⟨ret_int (by omega), below_drewN B2 _⟩)
    · rw [if_neg (by omega), if_neg (by omega)]
      go_enter Tryd.func41, Tryd.ntmps41
      go_upto_region 7 with (go_at_call 44; refine (Hp.out).mono ?_; rintro x w2 ⟨rfl, B2⟩)
      all_goals
        go_quiet (fail)
        go_wp2
        all_goals (go_ret; exact ⟨ret_int (by omega), below_drewN B2 _⟩)
  · rw [if_neg (by omega)]
    by_cases c2 : 0 + 128 < n
    · by_cases c3 : 256 ≤ n
      · rw [if_pos ⟨c2, c3⟩]
        go_enter Tryd.func41, Tryd.ntmps41
        go_upto_region 7 with (go_at_call 44; refine (Hp.out).mono ?_; rintro x w2 ⟨rfl, B2⟩)
        all_goals
          go_quiet (fail)
          go_wp2
          all_goals (go_ret; exact ⟨ret_int (by omega), below_drewN B2 _⟩)
      · rw [if_neg (by omega)]
        go_enter Tryd.func41, Tryd.ntmps41
        go_upto_region 7 with (go_at_call 44; refine (Hp.out).mono ?_; rintro x w2 ⟨rfl, B2⟩)
        all_goals
          go_quiet (fail)
          go_wp2
          all_goals (go_ret; exact ⟨ret_int (by omega), below_drewN B2 _⟩)
    · rw [if_neg (by omega)]
      go_enter Tryd.func41, Tryd.ntmps41
      go_upto_region 7 with (go_at_call 44; refine (Hp.out).mono ?_; rintro x w2 ⟨rfl, B2⟩)
      all_goals
        go_quiet (fail)
        go_wp2
        all_goals (go_ret; exact ⟨ret_int (by omega), below_drewN B2 _⟩)
theorem rgrow_2a (largest cut : Int) (w : World) (h0 : 0 ≤ largest) (h1 : largest < 4611686018427387904) (h2 : 0 ≤ cut) (h3 : cut < 18446744073709551616) :
    Calls Tryd.prog 41 #[.int .u64 largest, .bool true, .int .u64 cut, .int .i64 2] w fun e w' => e = .returned (.int .u64 (growS (largest + 1) cut 65536)) ∧ Below w.heap.size w w' := by
  have hp := power_any w 2 (by decide) (by decide)
  rw [show (((256 ^ 2 : Nat)) : Int) = 65536 from rfl, show ((2 : Nat) : Int) = 2 from rfl] at hp
  have Hp := Lib.hid hp
  unfold growS
  obtain ⟨n, hn⟩ : ∃ n, (largest + 1) - (largest + 1) % 65536 + cut % 65536 = n := ⟨_, rfl⟩
  rw [hn, show (65536 : Int) / 2 = 32768 from rfl]
  have hn0 : 0 ≤ n := by omega
  have hn1 : n ≤ (largest + 1) + 65536 := by omega
  clear hp
  by_cases c1 : n + 32768 ≤ (largest + 1)
  · by_cases c2 : n < 4611686018427387904 - 65536
    · rw [if_pos ⟨c1, c2⟩]
      go_enter Tryd.func41, Tryd.ntmps41
      go_upto_region 7 with (go_at_call 44; refine (Hp.out).mono ?_; rintro x w2 ⟨rfl, B2⟩)
      all_goals
        go_quiet (fail)
        go_wp2
        all_goals (go_ret; exact ⟨ret_int (by omega), below_drewN B2 _⟩)
    · rw [if_neg (by omega), if_neg (by omega)]
      go_enter Tryd.func41, Tryd.ntmps41
      go_upto_region 7 with (go_at_call 44; refine (Hp.out).mono ?_; rintro x w2 ⟨rfl, B2⟩)
      all_goals
        go_quiet (fail)
        go_wp2
        all_goals (go_ret; exact ⟨ret_int (by omega), below_drewN B2 _⟩)
  · rw [if_neg (by omega)]
    by_cases c2 : (largest + 1) + 32768 < n
    · by_cases c3 : 65536 ≤ n
      · rw [if_pos ⟨c2, c3⟩]
        go_enter Tryd.func41, Tryd.ntmps41
        go_upto_region 7 with (go_at_call 44; refine (Hp.out).mono ?_; rintro x w2 ⟨rfl, B2⟩)
        all_goals
          go_quiet (fail)
          go_wp2
          all_goals (go_ret; exact ⟨ret_int (by omega), below_drewN B2 _⟩)
      · rw [if_neg (by omega)]
        go_enter Tryd.func41, Tryd.ntmps41
        go_upto_region 7 with (go_at_call 44; refine (Hp.out).mono ?_; rintro x w2 ⟨rfl, B2⟩)
        all_goals
          go_quiet (fail)
          go_wp2
          all_goals (go_ret; exact ⟨ret_int (by omega), below_drewN B2 _⟩)
    · rw [if_neg (by omega)]
      go_enter Tryd.func41, Tryd.ntmps41
      go_upto_region 7 with (go_at_call 44; refine (Hp.out).mono ?_; rintro x w2 ⟨rfl, B2⟩)
      all_goals
        go_quiet (fail)
        go_wp2
        all_goals (go_ret; exact ⟨ret_int (by omega), below_drewN B2 _⟩)
theorem rgrow_2b (largest cut : Int) (w : World) (h0 : 4611686018427387904 ≤ largest) (h1 : largest < 18446744073709551616) (h2 : 0 ≤ cut) (h3 : cut < 18446744073709551616) :
    Calls Tryd.prog 41 #[.int .u64 largest, .bool true, .int .u64 cut, .int .i64 2] w fun e w' => e = .returned (.int .u64 (growS 4611686018427387904 cut 65536)) ∧ Below w.heap.size w w' := by
  have hp := power_any w 2 (by decide) (by decide)
  rw [show (((256 ^ 2 : Nat)) : Int) = 65536 from rfl, show ((2 : Nat) : Int) = 2 from rfl] at hp
  have Hp := Lib.hid hp
  unfold growS
  obtain ⟨n, hn⟩ : ∃ n, 4611686018427387904 - 4611686018427387904 % 65536 + cut % 65536 = n := ⟨_, rfl⟩
  rw [hn, show (65536 : Int) / 2 = 32768 from rfl]
  have hn0 : 0 ≤ n := by omega
  have hn1 : n ≤ 4611686018427387904 + 65536 := by omega
  clear hp
  by_cases c1 : n + 32768 ≤ 4611686018427387904
  · by_cases c2 : n < 4611686018427387904 - 65536
    · rw [if_pos ⟨c1, c2⟩]
      go_enter Tryd.func41, Tryd.ntmps41
      go_upto_region 7 with (go_at_call 44; refine (Hp.out).mono ?_; rintro x w2 ⟨rfl, B2⟩)
      all_goals
        go_quiet (fail)
        go_wp2
        all_goals (go_ret; exact ⟨ret_int (by omega), below_drewN B2 _⟩)
    · rw [if_neg (by omega), if_neg (by omega)]
      go_enter Tryd.func41, Tryd.ntmps41
      go_upto_region 7 with (go_at_call 44; refine (Hp.out).mono ?_; rintro x w2 ⟨rfl, B2⟩)
      all_goals
        go_quiet (fail)
        go_wp2
        all_goals (go_ret; exact ⟨ret_int (by omega), below_drewN B2 _⟩)
  · rw [if_neg (by omega)]
    by_cases c2 : 4611686018427387904 + 32768 < n
    · by_cases c3 : 65536 ≤ n
      · rw [if_pos ⟨c2, c3⟩]
        go_enter Tryd.func41, Tryd.ntmps41
        go_upto_region 7 with (go_at_call 44; refine (Hp.out).mono ?_; rintro x w2 ⟨rfl, B2⟩)
        all_goals
          go_quiet (fail)
          go_wp2
          all_goals (go_ret; exact ⟨ret_int (by omega), below_drewN B2 _⟩)
      · rw [if_neg (by omega)]
        go_enter Tryd.func41, Tryd.ntmps41
        go_upto_region 7 with (go_at_call 44; refine (Hp.out).mono ?_; rintro x w2 ⟨rfl, B2⟩)
        all_goals
          go_quiet (fail)
          go_wp2
          all_goals (go_ret; exact ⟨ret_int (by omega), below_drewN B2 _⟩)
    · rw [if_neg (by omega)]
      go_enter Tryd.func41, Tryd.ntmps41
      go_upto_region 7 with (go_at_call 44; refine (Hp.out).mono ?_; rintro x w2 ⟨rfl, B2⟩)
      all_goals
        go_quiet (fail)
        go_wp2
        all_goals (go_ret; exact ⟨ret_int (by omega), below_drewN B2 _⟩)
theorem rgrow_2c (largest cut : Int) (w : World) (h0 : 0 ≤ largest) (h1 : largest < 18446744073709551616) (h2 : 0 ≤ cut) (h3 : cut < 18446744073709551616) :
    Calls Tryd.prog 41 #[.int .u64 largest, .bool false, .int .u64 cut, .int .i64 2] w fun e w' => e = .returned (.int .u64 (growS 0 cut 65536)) ∧ Below w.heap.size w w' := by
  have hp := power_any w 2 (by decide) (by decide)
  rw [show (((256 ^ 2 : Nat)) : Int) = 65536 from rfl, show ((2 : Nat) : Int) = 2 from rfl] at hp
  have Hp := Lib.hid hp
  unfold growS
  obtain ⟨n, hn⟩ : ∃ n, 0 - 0 % 65536 + cut % 65536 = n := ⟨_, rfl⟩
  rw [hn, show (65536 : Int) / 2 = 32768 from rfl]
  have hn0 : 0 ≤ n := by omega
  have hn1 : n ≤ 0 + 65536 := by omega
  clear hp
  by_cases c1 : n + 32768 ≤ 0
  · by_cases c2 : n < 4611686018427387904 - 65536
    · rw [if_pos ⟨c1, c2⟩]
      go_enter Tryd.func41, Tryd.ntmps41
      go_upto_region 7 with (go_at_call 44; refine (Hp.out).mono ?_; rintro x w2 ⟨rfl, B2⟩)
      all_goals
        go_quiet (fail)
        go_wp2
        all_goals (go_ret; exact ⟨ret_int (by omega), below_drewN B2 _⟩)
    · rw [if_neg (by omega), if_neg (by omega)]
      go_enter Tryd.func41, Tryd.ntmps41
      go_upto_region 7 with (go_at_call 44; refine (Hp.out).mono ?_; rintro x w2 ⟨rfl, B2⟩)
      all_goals
        go_quiet (fail)
        go_wp2
        all_goals (go_ret; exact ⟨ret_int (by omega), below_drewN B2 _⟩)
  · rw [if_neg (by omega)]
    by_cases c2 : 0 + 32768 < n
    · by_cases c3 : 65536 ≤ n
      · rw [if_pos ⟨c2, c3⟩]
        go_enter Tryd.func41, Tryd.ntmps41
        go_upto_region 7 with (go_at_call 44; refine (Hp.out).mono ?_; rintro x w2 ⟨rfl, B2⟩)
        all_goals
          go_quiet (fail)
          go_wp2
          all_goals (go_ret; exact ⟨ret_int (by omega), below_drewN B2 _⟩)
      · rw [if_neg (by omega)]
        go_enter Tryd.func41, Tryd.ntmps41
        go_upto_region 7 with (go_at_call 44; refine (Hp.out).mono ?_; rintro x w2 ⟨rfl, B2⟩)
        all_goals
          go_quiet (fail)
          go_wp2
          all_goals (go_ret; exact ⟨ret_int (by omega), below_drewN B2 _⟩)
    · rw [if_neg (by omega)]
      go_enter Tryd.func41, Tryd.ntmps41
      go_upto_region 7 with (go_at_call 44; refine (Hp.out).mono ?_; rintro x w2 ⟨rfl, B2⟩)
      all_goals
        go_quiet (fail)
        go_wp2
        all_goals (go_ret; exact ⟨ret_int (by omega), below_drewN B2 _⟩)
theorem rgrow_3a (largest cut : Int) (w : World) (h0 : 0 ≤ largest) (h1 : largest < 4611686018427387904) (h2 : 0 ≤ cut) (h3 : cut < 18446744073709551616) :
    Calls Tryd.prog 41 #[.int .u64 largest, .bool true, .int .u64 cut, .int .i64 3] w fun e w' => e = .returned (.int .u64 (growS (largest + 1) cut 16777216)) ∧ Below w.heap.size w w' := by
  have hp := power_any w 3 (by decide) (by decide)
  rw [show (((256 ^ 3 : Nat)) : Int) = 16777216 from rfl, show ((3 : Nat) : Int) = 3 from rfl] at hp
  have Hp := Lib.hid hp
  unfold growS
  obtain ⟨n, hn⟩ : ∃ n, (largest + 1) - (largest + 1) % 16777216 + cut % 16777216 = n := ⟨_, rfl⟩
  rw [hn, show (16777216 : Int) / 2 = 8388608 from rfl]
  have hn0 : 0 ≤ n := by omega
  have hn1 : n ≤ (largest + 1) + 16777216 := by omega
  clear hp
  by_cases c1 : n + 8388608 ≤ (largest + 1)
  · by_cases c2 : n < 4611686018427387904 - 16777216
    · rw [if_pos ⟨c1, c2⟩]
      go_enter Tryd.func41, Tryd.ntmps41
      go_upto_region 7 with (go_at_call 44; refine (Hp.out).mono ?_; rintro x w2 ⟨rfl, B2⟩)
      all_goals
        go_quiet (fail)
        go_wp2
        all_goals (go_ret; exact ⟨ret_int (by omega), below_drewN B2 _⟩)
    · rw [if_neg (by omega), if_neg (by omega)]
      go_enter Tryd.func41, Tryd.ntmps41
      go_upto_region 7 with (go_at_call 44; refine (Hp.out).mono ?_; rintro x w2 ⟨rfl, B2⟩)
      all_goals
        go_quiet (fail)
        go_wp2
        all_goals (go_ret; exact ⟨ret_int (by omega), below_drewN B2 _⟩)
  · rw [if_neg (by omega)]
    by_cases c2 : (largest + 1) + 8388608 < n
    · by_cases c3 : 16777216 ≤ n
      · rw [if_pos ⟨c2, c3⟩]
        go_enter Tryd.func41, Tryd.ntmps41
        go_upto_region 7 with (go_at_call 44; refine (Hp.out).mono ?_; rintro x w2 ⟨rfl, B2⟩)
        all_goals
          go_quiet (fail)
          go_wp2
          all_goals (go_ret; exact ⟨ret_int (by omega), below_drewN B2 _⟩)
      · rw [if_neg (by omega)]
        go_enter Tryd.func41, Tryd.ntmps41
        go_upto_region 7 with (go_at_call 44; refine (Hp.out).mono ?_; rintro x w2 ⟨rfl, B2⟩)
        all_goals
          go_quiet (fail)
          go_wp2
          all_goals (go_ret; exact ⟨ret_int (by omega), below_drewN B2 _⟩)
    · rw [if_neg (by omega)]
      go_enter Tryd.func41, Tryd.ntmps41
      go_upto_region 7 with (go_at_call 44; refine (Hp.out).mono ?_; rintro x w2 ⟨rfl, B2⟩)
      all_goals
        go_quiet (fail)
        go_wp2
        all_goals (go_ret; exact ⟨ret_int (by omega), below_drewN B2 _⟩)
theorem rgrow_3b (largest cut : Int) (w : World) (h0 : 4611686018427387904 ≤ largest) (h1 : largest < 18446744073709551616) (h2 : 0 ≤ cut) (h3 : cut < 18446744073709551616) :
    Calls Tryd.prog 41 #[.int .u64 largest, .bool true, .int .u64 cut, .int .i64 3] w fun e w' => e = .returned (.int .u64 (growS 4611686018427387904 cut 16777216)) ∧ Below w.heap.size w w' := by
  have hp := power_any w 3 (by decide) (by decide)
  rw [show (((256 ^ 3 : Nat)) : Int) = 16777216 from rfl, show ((3 : Nat) : Int) = 3 from rfl] at hp
  have Hp := Lib.hid hp
  unfold growS
  obtain ⟨n, hn⟩ : ∃ n, 4611686018427387904 - 4611686018427387904 % 16777216 + cut % 16777216 = n := ⟨_, rfl⟩
  rw [hn, show (16777216 : Int) / 2 = 8388608 from rfl]
  have hn0 : 0 ≤ n := by omega
  have hn1 : n ≤ 4611686018427387904 + 16777216 := by omega
  clear hp
  by_cases c1 : n + 8388608 ≤ 4611686018427387904
  · by_cases c2 : n < 4611686018427387904 - 16777216
    · rw [if_pos ⟨c1, c2⟩]
      go_enter Tryd.func41, Tryd.ntmps41
      go_upto_region 7 with (go_at_call 44; refine (Hp.out).mono ?_; rintro x w2 ⟨rfl, B2⟩)
      all_goals
        go_quiet (fail)
        go_wp2
        all_goals (go_ret; exact ⟨ret_int (by omega), below_drewN B2 _⟩)
    · rw [if_neg (by omega), if_neg (by omega)]
      go_enter Tryd.func41, Tryd.ntmps41
      go_upto_region 7 with (go_at_call 44; refine (Hp.out).mono ?_; rintro x w2 ⟨rfl, B2⟩)
      all_goals
        go_quiet (fail)
        go_wp2
        all_goals (go_ret; exact ⟨ret_int (by omega), below_drewN B2 _⟩)
  · rw [if_neg (by omega)]
    by_cases c2 : 4611686018427387904 + 8388608 < n
    · by_cases c3 : 16777216 ≤ n
      · rw [if_pos ⟨c2, c3⟩]
        go_enter Tryd.func41, Tryd.ntmps41
        go_upto_region 7 with (go_at_call 44; refine (Hp.out).mono ?_; rintro x w2 ⟨rfl, B2⟩)
        all_goals
          go_quiet (fail)
          go_wp2
          all_goals (go_ret; exact ⟨ret_int (by omega), below_drewN B2 _⟩)
      · rw [if_neg (by omega)]
        go_enter Tryd.func41, Tryd.ntmps41
        go_upto_region 7 with (go_at_call 44; refine (Hp.out).mono ?_; rintro x w2 ⟨rfl, B2⟩)
        all_goals
          go_quiet (fail)
          go_wp2
          all_goals (go_ret; exact ⟨ret_int (by omega), below_drewN B2 _⟩)
    · rw [if_neg (by omega)]
      go_enter Tryd.func41, Tryd.ntmps41
      go_upto_region 7 with (go_at_call 44; refine (Hp.out).mono ?_; rintro x w2 ⟨rfl, B2⟩)
      all_goals
        go_quiet (fail)
        go_wp2
        all_goals (go_ret; exact ⟨ret_int (by omega), below_drewN B2 _⟩)
theorem rgrow_3c (largest cut : Int) (w : World) (h0 : 0 ≤ largest) (h1 : largest < 18446744073709551616) (h2 : 0 ≤ cut) (h3 : cut < 18446744073709551616) :
    Calls Tryd.prog 41 #[.int .u64 largest, .bool false, .int .u64 cut, .int .i64 3] w fun e w' => e = .returned (.int .u64 (growS 0 cut 16777216)) ∧ Below w.heap.size w w' := by
  have hp := power_any w 3 (by decide) (by decide)
  rw [show (((256 ^ 3 : Nat)) : Int) = 16777216 from rfl, show ((3 : Nat) : Int) = 3 from rfl] at hp
  have Hp := Lib.hid hp
  unfold growS
  obtain ⟨n, hn⟩ : ∃ n, 0 - 0 % 16777216 + cut % 16777216 = n := ⟨_, rfl⟩
  rw [hn, show (16777216 : Int) / 2 = 8388608 from rfl]
  have hn0 : 0 ≤ n := by omega
  have hn1 : n ≤ 0 + 16777216 := by omega
  clear hp
  by_cases c1 : n + 8388608 ≤ 0
  · by_cases c2 : n < 4611686018427387904 - 16777216
    · rw [if_pos ⟨c1, c2⟩]
      go_enter Tryd.func41, Tryd.ntmps41
      go_upto_region 7 with (go_at_call 44; refine (Hp.out).mono ?_; rintro x w2 ⟨rfl, B2⟩)
      all_goals
        go_quiet (fail)
        go_wp2
        all_goals (go_ret; exact ⟨ret_int (by omega), below_drewN B2 _⟩)
    · rw [if_neg (by omega), if_neg (by omega)]
      go_enter Tryd.func41, Tryd.ntmps41
      go_upto_region 7 with (go_at_call 44; refine (Hp.out).mono ?_; rintro x w2 ⟨rfl, B2⟩)
      all_goals
        go_quiet (fail)
        go_wp2
        all_goals (go_ret; exact ⟨ret_int (by omega), below_drewN B2 _⟩)
  · rw [if_neg (by omega)]
    by_cases c2 : 0 + 8388608 < n
    · by_cases c3 : 16777216 ≤ n
      · rw [if_pos ⟨c2, c3⟩]
        go_enter Tryd.func41, Tryd.ntmps41
        go_upto_region 7 with (go_at_call 44; refine (Hp.out).mono ?_; rintro x w2 ⟨rfl, B2⟩)
        all_goals
          go_quiet (fail)
          go_wp2
          all_goals (go_ret; exact ⟨ret_int (by omega), below_drewN B2 _⟩)
      · rw [if_neg (by omega)]
        go_enter Tryd.func41, Tryd.ntmps41
        go_upto_region 7 with (go_at_call 44; refine (Hp.out).mono ?_; rintro x w2 ⟨rfl, B2⟩)
        all_goals
          go_quiet (fail)
          go_wp2
          all_goals (go_ret; exact ⟨ret_int (by omega), below_drewN B2 _⟩)
    · rw [if_neg (by omega)]
      go_enter Tryd.func41, Tryd.ntmps41
      go_upto_region 7 with (go_at_call 44; refine (Hp.out).mono ?_; rintro x w2 ⟨rfl, B2⟩)
      all_goals
        go_quiet (fail)
        go_wp2
        all_goals (go_ret; exact ⟨ret_int (by omega), below_drewN B2 _⟩)
theorem rgrow_4a (largest cut : Int) (w : World) (h0 : 0 ≤ largest) (h1 : largest < 4611686018427387904) (h2 : 0 ≤ cut) (h3 : cut < 18446744073709551616) :
    Calls Tryd.prog 41 #[.int .u64 largest, .bool true, .int .u64 cut, .int .i64 4] w fun e w' => e = .returned (.int .u64 (growS (largest + 1) cut 4294967296)) ∧ Below w.heap.size w w' := by
  have hp := power_any w 4 (by decide) (by decide)
  rw [show (((256 ^ 4 : Nat)) : Int) = 4294967296 from rfl, show ((4 : Nat) : Int) = 4 from rfl] at hp
  have Hp := Lib.hid hp
  unfold growS
  obtain ⟨n, hn⟩ : ∃ n, (largest + 1) - (largest + 1) % 4294967296 + cut % 4294967296 = n := ⟨_, rfl⟩
  rw [hn, show (4294967296 : Int) / 2 = 2147483648 from rfl]
  have hn0 : 0 ≤ n := by omega
  have hn1 : n ≤ (largest + 1) + 4294967296 := by omega
  clear hp
  by_cases c1 : n + 2147483648 ≤ (largest + 1)
  · by_cases c2 : n < 4611686018427387904 - 4294967296
    · rw [if_pos ⟨c1, c2⟩]
      go_enter Tryd.func41, Tryd.ntmps41
      go_upto_region 7 with (go_at_call 44; refine (Hp.out).mono ?_; rintro x w2 ⟨rfl, B2⟩)
      all_goals
        go_quiet (fail)
        go_wp2
        all_goals (go_ret; exact ⟨ret_int (by omega), below_drewN B2 _⟩)
    · rw [if_neg (by omega), if_neg (by omega)]
      go_enter Tryd.func41, Tryd.ntmps41
      go_upto_region 7 with (go_at_call 44; refine (Hp.out).mono ?_; rintro x w2 ⟨rfl, B2⟩)
      all_goals
        go_quiet (fail)
        go_wp2
        all_goals (go_ret; exact ⟨ret_int (by omega), below_drewN B2 _⟩)
  · rw [if_neg (by omega)]
    by_cases c2 : (largest + 1) + 2147483648 < n
    · by_cases c3 : 4294967296 ≤ n
      · rw [if_pos ⟨c2, c3⟩]
        go_enter Tryd.func41, Tryd.ntmps41
        go_upto_region 7 with (go_at_call 44; refine (Hp.out).mono ?_; rintro x w2 ⟨rfl, B2⟩)
        all_goals
          go_quiet (fail)
          go_wp2
          all_goals (go_ret; exact ⟨ret_int (by omega), below_drewN B2 _⟩)
      · rw [if_neg (by omega)]
        go_enter Tryd.func41, Tryd.ntmps41
        go_upto_region 7 with (go_at_call 44; refine (Hp.out).mono ?_; rintro x w2 ⟨rfl, B2⟩)
        all_goals
          go_quiet (fail)
          go_wp2
          all_goals (go_ret; exact ⟨ret_int (by omega), below_drewN B2 _⟩)
    · rw [if_neg (by omega)]
      go_enter Tryd.func41, Tryd.ntmps41
      go_upto_region 7 with (go_at_call 44; refine (Hp.out).mono ?_; rintro x w2 ⟨rfl, B2⟩)
      all_goals
        go_quiet (fail)
        go_wp2
        all_goals (go_ret; exact ⟨ret_int (by omega), below_drewN B2 _⟩)
theorem rgrow_4b (largest cut : Int) (w : World) (h0 : 4611686018427387904 ≤ largest) (h1 : largest < 18446744073709551616) (h2 : 0 ≤ cut) (h3 : cut < 18446744073709551616) :
    Calls Tryd.prog 41 #[.int .u64 largest, .bool true, .int .u64 cut, .int .i64 4] w fun e w' => e = .returned (.int .u64 (growS 4611686018427387904 cut 4294967296)) ∧ Below w.heap.size w w' := by
  have hp := power_any w 4 (by decide) (by decide)
  rw [show (((256 ^ 4 : Nat)) : Int) = 4294967296 from rfl, show ((4 : Nat) : Int) = 4 from rfl] at hp
  have Hp := Lib.hid hp
  unfold growS
  obtain ⟨n, hn⟩ : ∃ n, 4611686018427387904 - 4611686018427387904 % 4294967296 + cut % 4294967296 = n := ⟨_, rfl⟩
  rw [hn, show (4294967296 : Int) / 2 = 2147483648 from rfl]
  have hn0 : 0 ≤ n := by omega
  have hn1 : n ≤ 4611686018427387904 + 4294967296 := by omega
  clear hp
  by_cases c1 : n + 2147483648 ≤ 4611686018427387904
  · by_cases c2 : n < 4611686018427387904 - 4294967296
    · rw [if_pos ⟨c1, c2⟩]
      go_enter Tryd.func41, Tryd.ntmps41
      go_upto_region 7 with (go_at_call 44; refine (Hp.out).mono ?_; rintro x w2 ⟨rfl, B2⟩)
      all_goals
        go_quiet (fail)
        go_wp2
        all_goals (go_ret; exact ⟨ret_int (by omega), below_drewN B2 _⟩)
    · rw [if_neg (by omega), if_neg (by omega)]
      go_enter Tryd.func41, Tryd.ntmps41
      go_upto_region 7 with (go_at_call 44; refine (Hp.out).mono ?_; rintro x w2 ⟨rfl, B2⟩)
      all_goals
        go_quiet (fail)
        go_wp2
        all_goals (go_ret; exact ⟨ret_int (by omega), below_drewN B2 _⟩)
  · rw [if_neg (by omega)]
    by_cases c2 : 4611686018427387904 + 2147483648 < n
    · by_cases c3 : 4294967296 ≤ n
      · rw [if_pos ⟨c2, c3⟩]
        go_enter Tryd.func41, Tryd.ntmps41
        go_upto_region 7 with (go_at_call 44; refine (Hp.out).mono ?_; rintro x w2 ⟨rfl, B2⟩)
        all_goals
          go_quiet (fail)
          go_wp2
          all_goals (go_ret; exact ⟨ret_int (by omega), below_drewN B2 _⟩)
      · rw [if_neg (by omega)]
        go_enter Tryd.func41, Tryd.ntmps41
        go_upto_region 7 with (go_at_call 44; refine (Hp.out).mono ?_; rintro x w2 ⟨rfl, B2⟩)
        all_goals
          go_quiet (fail)
          go_wp2
          all_goals (go_ret; exact ⟨ret_int (by omega), below_drewN B2 _⟩)
    · rw [if_neg (by omega)]
      go_enter Tryd.func41, Tryd.ntmps41
      go_upto_region 7 with (go_at_call 44; refine (Hp.out).mono ?_; rintro x w2 ⟨rfl, B2⟩)
      all_goals
        go_quiet (fail)
        go_wp2
        all_goals (go_ret; exact ⟨ret_int (by omega), below_drewN B2 _⟩)
theorem rgrow_4c (largest cut : Int) (w : World) (h0 : 0 ≤ largest) (h1 : largest < 18446744073709551616) (h2 : 0 ≤ cut) (h3 : cut < 18446744073709551616) :
    Calls Tryd.prog 41 #[.int .u64 largest, .bool false, .int .u64 cut, .int .i64 4] w fun e w' => e = .returned (.int .u64 (growS 0 cut 4294967296)) ∧ Below w.heap.size w w' := by
  have hp := power_any w 4 (by decide) (by decide)
  rw [show (((256 ^ 4 : Nat)) : Int) = 4294967296 from rfl, show ((4 : Nat) : Int) = 4 from rfl] at hp
  have Hp := Lib.hid hp
  unfold growS
  obtain ⟨n, hn⟩ : ∃ n, 0 - 0 % 4294967296 + cut % 4294967296 = n := ⟨_, rfl⟩
  rw [hn, show (4294967296 : Int) / 2 = 2147483648 from rfl]
  have hn0 : 0 ≤ n := by omega
  have hn1 : n ≤ 0 + 4294967296 := by omega
  clear hp
  by_cases c1 : n + 2147483648 ≤ 0
  · by_cases c2 : n < 4611686018427387904 - 4294967296
    · rw [if_pos ⟨c1, c2⟩]
      go_enter Tryd.func41, Tryd.ntmps41
      go_upto_region 7 with (go_at_call 44; refine (Hp.out).mono ?_; rintro x w2 ⟨rfl, B2⟩)
      all_goals
        go_quiet (fail)
        go_wp2
        all_goals (go_ret; exact ⟨ret_int (by omega), below_drewN B2 _⟩)
    · rw [if_neg (by omega), if_neg (by omega)]
      go_enter Tryd.func41, Tryd.ntmps41
      go_upto_region 7 with (go_at_call 44; refine (Hp.out).mono ?_; rintro x w2 ⟨rfl, B2⟩)
      all_goals
        go_quiet (fail)
        go_wp2
        all_goals (go_ret; exact ⟨ret_int (by omega), below_drewN B2 _⟩)
  · rw [if_neg (by omega)]
    by_cases c2 : 0 + 2147483648 < n
    · by_cases c3 : 4294967296 ≤ n
      · rw [if_pos ⟨c2, c3⟩]
        go_enter Tryd.func41, Tryd.ntmps41
        go_upto_region 7 with (go_at_call 44; refine (Hp.out).mono ?_; rintro x w2 ⟨rfl, B2⟩)
        all_goals
          go_quiet (fail)
          go_wp2
          all_goals (go_ret; exact ⟨ret_int (by omega), below_drewN B2 _⟩)
      · rw [if_neg (by omega)]
        go_enter Tryd.func41, Tryd.ntmps41
        go_upto_region 7 with (go_at_call 44; refine (Hp.out).mono ?_; rintro x w2 ⟨rfl, B2⟩)
        all_goals
          go_quiet (fail)
          go_wp2
          all_goals (go_ret; exact ⟨ret_int (by omega), below_drewN B2 _⟩)
    · rw [if_neg (by omega)]
      go_enter Tryd.func41, Tryd.ntmps41
      go_upto_region 7 with (go_at_call 44; refine (Hp.out).mono ?_; rintro x w2 ⟨rfl, B2⟩)
      all_goals
        go_quiet (fail)
        go_wp2
        all_goals (go_ret; exact ⟨ret_int (by omega), below_drewN B2 _⟩)
theorem rgrow_any (w : World) (largest cut size pn : Nat) (b : Bool) (hl : largest < 18446744073709551616) (hc : cut < 18446744073709551616) (h : GR largest b cut size pn) (h1 : 1 ≤ size) (h4 : size ≤ 4) :
    Calls Tryd.prog 41 #[.int .u64 (largest : Int), .bool b, .int .u64 (cut : Int), .int .i64 (size : Int)] w fun e w' => e = .returned (.int .u64 (pn : Int)) ∧ Below w.heap.size w w' := by
  rw [← h.h]
  unfold growF
  rw [← growS_nat _ _ _ (by rcases (show size = 1 ∨ size = 2 ∨ size = 3 ∨ size = 4 by omega) with rfl | rfl | rfl | rfl <;> decide)]
  cases b
  · rcases (show size = 1 ∨ size = 2 ∨ size = 3 ∨ size = 4 by omega) with rfl | rfl | rfl | rfl
    · exact rgrow_1c _ _ w (by omega) (by omega) (by omega) (by omega)
    · exact rgrow_2c _ _ w (by omega) (by omega) (by omega) (by omega)
    · exact rgrow_3c _ _ w (by omega) (by omega) (by omega) (by omega)
    · exact rgrow_4c _ _ w (by omega) (by omega) (by omega) (by omega)
  · by_cases hb : largest < 4611686018427387904
    · rw [show ((nextN largest true : Nat) : Int) = (largest : Int) + 1 by unfold nextN; rw [if_pos rfl]; omega]
      rcases (show size = 1 ∨ size = 2 ∨ size = 3 ∨ size = 4 by omega) with rfl | rfl | rfl | rfl
      · exact rgrow_1a _ _ w (by omega) (by omega) (by omega) (by omega)
      · exact rgrow_2a _ _ w (by omega) (by omega) (by omega) (by omega)
      · exact rgrow_3a _ _ w (by omega) (by omega) (by omega) (by omega)
      · exact rgrow_4a _ _ w (by omega) (by omega) (by omega) (by omega)
    · rw [show ((nextN largest true : Nat) : Int) = 4611686018427387904 by unfold nextN; rw [if_pos rfl]; omega]
      rcases (show size = 1 ∨ size = 2 ∨ size = 3 ∨ size = 4 by omega) with rfl | rfl | rfl | rfl
      · exact rgrow_1b _ _ w (by omega) (by omega) (by omega) (by omega)
      · exact rgrow_2b _ _ w (by omega) (by omega) (by omega) (by omega)
      · exact rgrow_3b _ _ w (by omega) (by omega) (by omega) (by omega)
      · exact rgrow_4b _ _ w (by omega) (by omega) (by omega) (by omega)
end Go.Proofs.YtlncnjcbgfeaoaaDoor

/- the reference's nonce. -/
set_option maxRecDepth 100000
set_option linter.unusedVariables false
namespace Go.Proofs.YtlncnjcbgfeaoaaDoor
open Go.RowKit
set_option maxHeartbeats 4000000 in
theorem rnonce_any (w : World) {a b c d : List UInt8} (ha : a.length = 32) (hb : b.length = 12) (pn : Nat) (hpn : pn < 18446744073709551616) (hD : NON b pn d) :
    Calls Tryd.prog 43 #[.agg ((a ++ b ++ c).map B).toArray, .int .u64 (pn : Int)] w fun e w' => ∃ a' c', e = .returned (.slice a' 12 c') ∧ OW w' w.heap.size 5 1 a' 12 c' (d.map B) ∧ Below w.heap.size w w' := by
  obtain ⟨D, hDe⟩ : ∃ D, a ++ b ++ c = D := ⟨_, rfl⟩
  have hDl : D.length = a.length + 12 + c.length := by rw [← hDe, List.length_append, List.length_append, hb]
  have hA := AB_box w 33 D
  have hbl : Below w.heap.size w _ := below_alloc w (.cells (D.map B).toArray 33)
  have hpr := fun (w' : World) (h : w'.rangeAt w.heap.size 0 (D.map B)) => (rng_parts (a := a) (b := b) (c := c) (by rw [hDe]; exact h) ha hb).2.1
  rw [hDe]
  clear hDe hDl
  have Hdl := Lib.hid (hD.len.trans hb)
  have HD := Lib.hid hD
  clear hD
  go_enter Tryd.func43, Tryd.ntmps43
  go_upto_region 1 with (fail)
  generalize (World.alloc _ _) = W1 at *
  have l0 := hA.lt
  have rB := hpr W1 hA.rng
  have hbs := hbl.size
  have hN1 : BS W1 (some ⟨w.heap.size, 32, none⟩) 12 12 b := by
    refine ⟨by rw [List.length_map, hb], Nat.le_refl _, by decide, one_B _, (fun h => by cases h), fun ad had => ?_⟩
    cases had
    exact ⟨fun _ => rfl, fun j v hv => rB j v hv⟩
  have HB := Lib.hid hbl
  clear hA hbl hpr rB
  go_upto_region 2 with (go_at_call 18; refine (copyP _ hN1 (by omega)).mono ?_; rintro x w2 ⟨a2, c2, rfl, o2, B2⟩)
  obtain ⟨g, rfl, lg1, lg2⟩ : ∃ g, a2 = some ⟨g, 0, none⟩ ∧ W1.heap.size ≤ g ∧ g < w2.heap.size := by
    rcases o2.shape with ⟨_, h, _⟩ | ⟨g, cur, h1, h2, h3, _⟩
    · omega
    · exact ⟨g, h1, h2, h3⟩
  have ho2 : OW w2 W1.heap.size 5 1 (some ⟨g, 0, none⟩) 12 c2 ((nonJ b pn 0).map B) := o2
  have hb2 := HB.out.trans (B2.mono hbs)
  have HB2 := Lib.hid hb2
  clear o2 B2 hb2 hN1 HB
  go_wp2
  go_loopw [6, 1] (fun s6 s1 wr => ∃ i : Nat, i ≤ 8 ∧ s6 = .int .i64 (11 - (i : Int)) ∧ s1 = .int .u64 ((pn / 256 ^ i : Nat) : Int) ∧ OW wr W1.heap.size 5 1 (some ⟨g, 0, none⟩) 12 c2 ((nonJ b pn i).map B) ∧ w2.grownBy wr (some g)) (fun s6 _ _ => (intOf s6).toNat)
  case atStart => exact ⟨0, by omega, rfl, by simp, ho2, World.grownBy.refl w2 _⟩
  case round =>
    obtain ⟨i, hi, rfl, rfl, hO5, hG5⟩ := hrel
    clear ho2
    by_cases hlt : i < 8
    · obtain ⟨x, hx⟩ : ∃ x, (nonJ b pn i)[11 - i]? = some x := ⟨_, List.getElem?_eq_getElem (by rw [nonJ_len]; omega)⟩
      obtain ⟨u, hu⟩ : ∃ u, 11 - i = u := ⟨_, rfl⟩
      have hui : 11 - (i : Int) = (u : Int) := by omega
      have hxl := x.toNat_lt
      obtain ⟨m, hm⟩ : ∃ m, pn / 256 ^ i = m := ⟨_, rfl⟩
      have hm2 : pn / 256 ^ (i + 1) = m / 256 := by rw [Nat.pow_succ, ← Nat.div_div_eq_div_mul, hm]
      have hml : m < 18446744073709551616 := by rw [← hm]; exact Nat.lt_of_le_of_lt (Nat.div_le_self _ _) hpn
      have h2 := hO5.setCell u (B (x ^^^ UInt8.ofNat m)) rfl
      have e2 : (nonJ b pn i).set u (x ^^^ UInt8.ofNat m) = nonJ b pn (i + 1) := by
        rw [nonJ, List.getD_eq_getElem?_getD, hx, hm, hu]; rfl
      rw [← List.map_set, e2] at h2
      have g2 := grown_set hG5 u (B (x ^^^ UInt8.ofNat m))
      rw [hu] at hx
      have q0 : wr.cell? ⟨g, u, none⟩ = some (.int .u8 (x.toNat : Int)) := hO5.cell u (B x) (by rw [List.getElem?_map, hx]; rfl)
      have f0 := hO5.frozen u
      obtain ⟨y, hy⟩ : ∃ y : Nat, m % 256 = y := ⟨_, rfl⟩
      have hy1 : (m : Int) % 256 = (y : Int) := by omega
      have hy2 : y < 256 := by omega
      have hxor := u8_xor_nat x.toNat y hxl hy2
      obtain ⟨z, hz⟩ : ∃ z, x.toNat ^^^ y = z := ⟨_, rfl⟩
      have hv : B (x ^^^ UInt8.ofNat m) = .int .u8 (z : Int) := by
        rw [← hz, ← hy]; simp only [B, UInt8.toNat_xor, UInt8.toNat_ofNat']
      rw [hz] at hxor
      rw [hv] at h2 g2
      rw [hm]
      have H2 := Lib.hid h2
      have G2 := Lib.hid g2
      have Hm2 := Lib.hid hm2
      have Hu := Lib.hid hu
      have hu12 : u < 12 := by omega
      have hu4 : 4 ≤ u := by omega
      have hul : (u : Int) - 1 = 11 - ((i : Int) + 1) := by omega
      clear hx hO5 hG5 h2 g2 e2 hm hv hy hz hm2 hu
      rw [hui]
      go_wp2
      generalize (World.setCell _ _ _) = W7 at *
      go_roundw
      case rel => exact ⟨i + 1, by omega, by have := Hu.out; go_num, by rw [Hm2.out]; rfl, H2.out, G2.out⟩
      case measure => simp [intOf]; omega
    · obtain rfl : i = 8 := by omega
      rw [HD.out.h] at hO5
      have b9 := HB2.out.grown hG5 HB2.out.size (fun k hk => by cases hk; omega)
      have HB9 := Lib.hid b9
      have HO := Lib.hid hO5
      clear hO5 hG5 b9
      go_wp2
      go_ret
      exact ⟨_, _, rfl, HO.out.mono hbs, HB9.out⟩
end Go.Proofs.YtlncnjcbgfeaoaaDoor

/- parcel.First. -/
set_option maxRecDepth 100000
set_option linter.unusedVariables false
namespace Go.Proofs.YtlncnjcbgfeaoaaDoor
open Go.RowKit Go.Joins
def firstS : List UInt8 := [56, 118, 44, 247, 245, 89, 52, 179, 77, 23, 154, 230, 164, 200, 12, 173, 204, 187, 127, 10]
/-- the laid table of parcel -/
def KF (w : World) : Prop := w.rangeAt 0 0 (firstS.map B)
theorem KF.lt {w : World} (h : KF w) : 0 < w.heap.size := World.block_lt_of_cell? _ _ (h 0 _ rfl)
theorem KF.below {w w' : World} {n : Nat} (h : KF w) (hb : Below n w w') (hn : w.heap.size ≤ n) : KF w' := range_bel h hb (Nat.lt_of_lt_of_le h.lt hn)
theorem BS_range {w : World} {b o n : Nat} {xs : List UInt8} (h : w.rangeAt b o (xs.map B)) (hn : xs.length = n) (hm : n ≤ 140737488355328) : BS w (some ⟨b, o, none⟩) n n xs := by
  refine ⟨by simp [hn], Nat.le_refl _, by unfold maxLen; omega, one_B _, (fun h => by cases h), fun ad had => ?_⟩
  cases had
  exact ⟨fun _ => rfl, fun q v hq => h q v hq⟩
theorem results_rows2 {P : Program} {fn : Func} {p q : Tmp} {ty : TypeId} (h : fn.results = #[.cell p ty, .cell q ty]) (tmps : Array Value) (w : World) (g k : Nat) (t : TypeId) (cs ds : Array Value) (d : TypeDesc)
    (hp : tmps.getD p undef = .pointer (some ⟨g, 0, none⟩)) (hq : tmps.getD q undef = .pointer (some ⟨k, 0, none⟩)) (hg : w.heap[g]? = some (.cells cs t (0, 0))) (hk : w.heap[k]? = some (.cells ds t (0, 0)))
    (hu : P.underlying ty = some d) (hd : (match d with | .struct _ | .array _ _ => true | _ => false) = true) (hi : (P.info? ty).map (·.size) = some cs.size) (hj : (P.info? ty).map (·.size) = some ds.size) :
    (results fn tmps).run P w = .ok (.tuple #[.agg cs, .agg ds]) w := by
  have hp' : tmps[p]?.getD undef = .pointer (some ⟨g, 0, none⟩) := by simpa using hp
  have hq' : tmps[q]?.getD undef = .pointer (some ⟨k, 0, none⟩) := by simpa using hq
  simp [results, h, hp', hq', asAddr, run_loadVar_row w g t ty cs _ d hg hu hd hi, run_loadVar_row w k t ty ds _ d hk hu hd hj, Result.andThen]
/-- a name's first secrets -/
structure FS (nm x a b : List UInt8) : Prop where
  hx : macS firstS nm = x
  xl : x.length = 32
  ha : LB x [99, 108, 105, 101, 110, 116, 32, 105, 110] 32 a
  hb : LB x [115, 101, 114, 118, 101, 114, 32, 105, 110] 32 b
theorem FS_ex (nm : List UInt8) : ∃ x a b, FS nm x a b := by
  obtain ⟨x, hx⟩ : ∃ x, macS firstS nm = x := ⟨_, rfl⟩
  obtain ⟨a, ha⟩ := LB_ex x [99, 108, 105, 101, 110, 116, 32, 105, 110] 32
  obtain ⟨b, hb⟩ := LB_ex x [115, 101, 114, 118, 101, 114, 32, 105, 110] 32
  exact ⟨x, a, b, hx, by rw [← hx]; exact shaS_len _, ha, hb⟩
set_option maxHeartbeats 4000000 in
theorem first_any (w : World) {a0 : Option Addr} {n0 c0 : Nat} {nm x a b : List UInt8} (hn : BS w a0 n0 c0 nm) (h0 : n0 ≤ 549755813888) (hF : FS nm x a b) (hKF : KF w) (hK : KT w) :
    Calls Tryd.prog 10 #[.slice a0 n0 c0] w fun e w' => e = .returned (.tuple #[.agg (a.map B).toArray, .agg (b.map B).toArray]) ∧ Below w.heap.size w w' := by
  have hz1 : (w.alloc (.cells #[.int .u8 0, .int .u8 0, .int .u8 0, .int .u8 0, .int .u8 0, .int .u8 0, .int .u8 0, .int .u8 0, .int .u8 0, .int .u8 0, .int .u8 0, .int .u8 0, .int .u8 0, .int .u8 0, .int .u8 0, .int .u8 0, .int .u8 0, .int .u8 0, .int .u8 0, .int .u8 0, .int .u8 0, .int .u8 0, .int .u8 0, .int .u8 0, .int .u8 0, .int .u8 0, .int .u8 0, .int .u8 0, .int .u8 0, .int .u8 0, .int .u8 0, .int .u8 0] 22)).heap.size = w.heap.size + 1 := by simp
  have hZa := (AB_zeros w rfl).al (.cells #[.int .u8 0, .int .u8 0, .int .u8 0, .int .u8 0, .int .u8 0, .int .u8 0, .int .u8 0, .int .u8 0, .int .u8 0, .int .u8 0, .int .u8 0, .int .u8 0, .int .u8 0, .int .u8 0, .int .u8 0, .int .u8 0, .int .u8 0, .int .u8 0, .int .u8 0, .int .u8 0, .int .u8 0, .int .u8 0, .int .u8 0, .int .u8 0, .int .u8 0, .int .u8 0, .int .u8 0, .int .u8 0, .int .u8 0, .int .u8 0, .int .u8 0, .int .u8 0] 22)
  have hZb := AB_zeros (w.alloc (.cells #[.int .u8 0, .int .u8 0, .int .u8 0, .int .u8 0, .int .u8 0, .int .u8 0, .int .u8 0, .int .u8 0, .int .u8 0, .int .u8 0, .int .u8 0, .int .u8 0, .int .u8 0, .int .u8 0, .int .u8 0, .int .u8 0, .int .u8 0, .int .u8 0, .int .u8 0, .int .u8 0, .int .u8 0, .int .u8 0, .int .u8 0, .int .u8 0, .int .u8 0, .int .u8 0, .int .u8 0, .int .u8 0, .int .u8 0, .int .u8 0, .int .u8 0, .int .u8 0] 22)) rfl
  have hb : Below w.heap.size w _ := (below_alloc w (.cells #[.int .u8 0, .int .u8 0, .int .u8 0, .int .u8 0, .int .u8 0, .int .u8 0, .int .u8 0, .int .u8 0, .int .u8 0, .int .u8 0, .int .u8 0, .int .u8 0, .int .u8 0, .int .u8 0, .int .u8 0, .int .u8 0, .int .u8 0, .int .u8 0, .int .u8 0, .int .u8 0, .int .u8 0, .int .u8 0, .int .u8 0, .int .u8 0, .int .u8 0, .int .u8 0, .int .u8 0, .int .u8 0, .int .u8 0, .int .u8 0, .int .u8 0, .int .u8 0] 22)).alloc (by simp) (.cells #[.int .u8 0, .int .u8 0, .int .u8 0, .int .u8 0, .int .u8 0, .int .u8 0, .int .u8 0, .int .u8 0, .int .u8 0, .int .u8 0, .int .u8 0, .int .u8 0, .int .u8 0, .int .u8 0, .int .u8 0, .int .u8 0, .int .u8 0, .int .u8 0, .int .u8 0, .int .u8 0, .int .u8 0, .int .u8 0, .int .u8 0, .int .u8 0, .int .u8 0, .int .u8 0, .int .u8 0, .int .u8 0, .int .u8 0, .int .u8 0, .int .u8 0, .int .u8 0] 22)
  rw [hz1] at hZb
  have HK1 := Lib.hid (hK.below hb (Nat.le_refl _))
  have HF1 := Lib.hid (hKF.below hb (Nat.le_refl _))
  have hn1 := RS.below hn hb (Nat.le_refl _)
  have hj32 := Lib.hid (len32 hF.xl)
  have hia := Lib.hid (show (Tryd.prog.info? 22).map (·.size) = some (a.map B).toArray.size by rw [List.size_toArray]; exact len32 hF.ha.len)
  have hib := Lib.hid (show (Tryd.prog.info? 22).map (·.size) = some (b.map B).toArray.size by rw [List.size_toArray]; exact len32 hF.hb.len)
  clear hK hz1 hKF hn
  go_enter Tryd.func10, Tryd.ntmps10
  go_upto_region 1 with (fail)
  generalize (World.alloc _ _) = W1 at *
  have hf1 := BS_range HF1.out rfl (by decide)
  go_upto_region 2 with (first
    | (go_at_call 27; refine (extract_any _ hf1 hn1 (by decide) h0 HK1.out).mono ?_; rw [hF.hx]; rintro e w2 ⟨rfl, B2⟩)
    | (refine L_store32 rfl _ _ rfl rfl rfl (AB_zeros _ rfl) (by simp) hF.xl ?_; intro w3 hA3 hg3))
  have hs2 := B2.size
  have b3 : Below W1.heap.size W1 w3 := (B2.alloc hs2 _).grown hg3 (by simp; omega) (fun k hk => by cases hk; exact hs2)
  have hs3 := b3.size
  have hZa3 := hZa.bel b3 hZa.lt
  have hZb3 := hZb.bel b3 hZb.lt
  have hg1 := hZb.lt
  have hlt := hA3.lt
  have HK3 := Lib.hid (p := KT w3.drew) (show KT w3 from HK1.out.below b3 (Nat.le_refl _))
  have hr3 := hA3.range
  have hu32 := Tryd.underlying22
  have hs32 := hj32.out
  have hbw := hb.trans (b3.mono hb.size)
  obtain ⟨G, hG⟩ : ∃ G, w2.heap.size = G := ⟨_, rfl⟩
  rw [hG] at hr3 hlt ⊢
  have hG1 : w.heap.size + 1 < G := by omega
  clear hA3 hg3 hG
  refine wp_region_noPanic ?_
  refine wp_region_held_drew (S := fun w' => w'.rangeAt G 0 (x.map B)) (by kernel_rfl) hr3 (fun hHeld => ?_)
  refine wpAnyH_take (i := 0) rfl (by kernel_rfl) (by kernel_rfl) (by kernel_rfl) (fun _ _ _ h => h) (yieldsIf_load_mid (by rfl) _ _ rfl _ _ rfl _ _ (fun w h => h) hu32 rfl hs32) hHeld ?_
  try simp only [Act.put, List.getElem_toArray, List.getElem_cons_zero, List.setIfInBounds_toArray, List.set_cons_zero, List.set_cons_succ]
  refine wpAnyH_take (i := 2) rfl (by kernel_rfl) (by kernel_rfl) (by kernel_rfl) (fun _ _ _ h => h) (yieldsIf_load_mid (by rfl) _ _ rfl _ _ rfl _ _ (fun w h => h) hu32 rfl hs32) hHeld ?_
  try simp only [Act.put, List.getElem_toArray, List.getElem_cons_succ, List.getElem_cons_zero, List.setIfInBounds_toArray, List.set_cons_zero, List.set_cons_succ]
  refine wpAnyH_ready (rs := [1]) (by kernel_rfl) (by simp) (AllReadyH.cons rfl (fun K hK => ?_) AllReadyH.nil)
  go_simp
  go_at_call 28
  refine (lab_any _ hF.xl { data := #[99, 108, 105, 101, 110, 116, 32, 105, 110] } (by decide) hF.ha HK3.out).mono ?_
  rintro e w4 ⟨rfl, B4⟩
  have b4 : Below w3.heap.size w3 w4 := below_undrew B4
  have R4 := range_bel hr3 b4 hlt
  have HK4 := Lib.hid (show KT w4 from KT.below (w := w3) HK3.out b4 (Nat.le_refl _))
  refine hK.out _ _ R4 (fun hHeld => ?_)
  clear hK K
  try simp only [Act.put, List.getElem_toArray, List.getElem_cons_succ, List.getElem_cons_zero, List.setIfInBounds_toArray, List.set_cons_zero, List.set_cons_succ]
  refine wpAnyH_ready (rs := [3]) (by kernel_rfl) (by simp) (AllReadyH.cons rfl (fun K hK => ?_) AllReadyH.nil)
  go_simp
  go_at_call 28
  refine (lab_any _ hF.xl { data := #[115, 101, 114, 118, 101, 114, 32, 105, 110] } (by decide) hF.hb HK4.out).mono ?_
  rintro e w5 ⟨rfl, B5⟩
  have b5 := btrans b4 B5
  have R5 := range_bel hr3 b5 hlt
  have hZa5 := hZa3.bel b5 (by omega)
  have hZb5 := hZb3.bel b5 (by omega)
  have hs5 := b5.size
  have hb5 := hbw.trans (b5.mono hbw.size)
  refine hK.out _ _ R5 (fun hHeld => ?_)
  clear hK K
  try simp only [Act.put, List.getElem_toArray, List.getElem_cons_succ, List.getElem_cons_zero, List.setIfInBounds_toArray, List.set_cons_zero, List.set_cons_succ]
  refine wpAnyH_ready (rs := [4]) (by kernel_rfl) (by simp) (AllReadyH.cons rfl (fun K hK => ?_) AllReadyH.nil)
  refine S_storeA rfl _ _ _ rfl rfl rfl hZa5 i32 (by simp) hF.ha.len ?_
  intro w6 hA6 hg6
  have R6 : w6.rangeAt G 0 (x.map B) := fun j v hv => (World.cell?_of_block (a := ⟨G, 0 + j, none⟩) (hg6.block G (by omega) (by simp; omega))).trans (R5 j v hv)
  have hZb6 := hZb5.grown hg6 (by simp)
  have hs6 := hg6.size
  have hb6 := hb5.grown hg6 hb5.size (fun k hk => by cases hk; exact Nat.le_refl _)
  refine hK.out _ _ R6 (fun hHeld => ?_)
  clear hK K
  try simp only [Act.put, List.getElem_toArray, List.getElem_cons_succ, List.getElem_cons_zero]
  refine wpAnyH_ready (rs := [5]) (by kernel_rfl) (by simp) (AllReadyH.cons rfl (fun K hK => ?_) AllReadyH.nil)
  refine S_storeA rfl _ _ _ rfl rfl rfl hZb6 i32 (by simp) hF.hb.len ?_
  intro w7 hA7 hg7
  have R7 : w7.rangeAt G 0 (x.map B) := fun j v hv => (World.cell?_of_block (a := ⟨G, 0 + j, none⟩) (hg7.block G (by omega) (by simp; omega))).trans (R6 j v hv)
  have hA6' := hA6.grown hg7 (by simp)
  have hb7 := hb6.grown hg7 hb6.size (fun k hk => by cases hk; omega)
  refine hK.out _ _ R7 (fun hHeld => ?_)
  clear hK K
  refine wpAnyH_done (by kernel_rfl) ?_ _
  refine NoPanic.normal ?_
  try simp only [Act.put, List.getElem_toArray, List.getElem_cons_succ, List.getElem_cons_zero]
  go_wp2
  exact bodyPost_ret_by (results_rows2 rfl _ _ _ _ _ _ _ _ rfl rfl hA6' hA7 Tryd.underlying22 rfl hia.out hib.out) rfl ⟨rfl, hb7⟩
end Go.Proofs.YtlncnjcbgfeaoaaDoor

/- ref06.Next, First, Draw. -/
set_option maxRecDepth 100000
set_option linter.unusedVariables false
namespace Go.Proofs.YtlncnjcbgfeaoaaDoor
open Go.RowKit Go.Joins
theorem refNext_any (w : World) {a0 : Option Addr} {n0 c0 : Nat} {sec d : List UInt8} (hs : BS w a0 n0 c0 sec) (h0 : n0 ≤ 549755813888) (hD : LB sec [113, 117, 105, 99, 32, 107, 117] 32 d) :
    Calls Tryd.prog 16 #[.slice a0 n0 c0] w fun e w' => ∃ a c, e = .returned (.slice a 32 c) ∧ BS w' a 32 c d ∧ Below w.heap.size w w' := by
  go_enter Tryd.func16, Tryd.ntmps16
  go_wp2_with (go_at_call 30; refine (refLabel_32 _ _ hs h0 (by decide) hD).mono ?_; rintro e w2 ⟨a2, c2, rfl, hb2, B2, -⟩; have Hb := Lib.hid hb2; clear hb2)
  go_ret
  exact ⟨a2, c2, rfl, Hb.out, B2⟩
set_option maxHeartbeats 2000000 in
theorem refFirst_any (w : World) {a0 : Option Addr} {n0 c0 : Nat} {nm x a b : List UInt8} (hn : BS w a0 n0 c0 nm) (h0 : n0 ≤ 549755813888) (hF : FS nm x a b) :
    Calls Tryd.prog 11 #[.slice a0 n0 c0] w fun e w' => ∃ a1 c1 a2 c2, e = .returned (.tuple #[.slice a1 32 c1, .slice a2 32 c2]) ∧ BS w' a1 32 c1 a ∧ BS w' a2 32 c2 b ∧ Below w.heap.size w w' := by
  have v1 := run_convert_bytes_const_at (P := Tryd.prog) w 23 5 #[.int .u8 56, .int .u8 118, .int .u8 44, .int .u8 247, .int .u8 245, .int .u8 89, .int .u8 52, .int .u8 179, .int .u8 77, .int .u8 23, .int .u8 154, .int .u8 230, .int .u8 164, .int .u8 200, .int .u8 12, .int .u8 173, .int .u8 204, .int .u8 187, .int .u8 127, .int .u8 10] 20 20 w.heap.size rfl Tryd.underlying23 Tryd.underlying5
  go_enter Tryd.func11, Tryd.ntmps11
  go_upto_region 2 with (first
    | (go_at_call 29; refine (refMac_any _ (BS_lit w firstS _ _ rfl 20 rfl (by decide) rfl) (RS.alloc hn _) (by decide) (by omega)).mono ?_; rw [hF.hx]; rintro e w2 ⟨a2, c2, rfl, o2, B2⟩))
  have hx2 : BS w2 a2 32 c2 x := o2.rs
  have hbw : Below w.heap.size w w2 := (below_alloc w _).trans (B2.mono (below_alloc w _).size)
  clear o2 v1
  go_upto_region 3 with (go_at_call 30; refine (refLabel_32 _ _ hx2 (by omega) (by decide) hF.ha).mono ?_; rintro e w3 ⟨a3, c3, rfl, hb3, B3, -⟩)
  have hx3 := RS.below hx2 B3 (Nat.le_refl _)
  go_upto_region 4 with (go_at_call 30; refine (refLabel_32 _ _ hx3 (by omega) (by decide) hF.hb).mono ?_; rintro e w4 ⟨a4, c4, rfl, hb4, B4, -⟩)
  have Hb3 := Lib.hid (RS.below hb3 B4 (Nat.le_refl _))
  have Hb4 := Lib.hid hb4
  clear hb3 hb4 hx2 hx3
  go_wp2
  go_ret2
  exact ⟨a3, c3, a4, c4, rfl, Hb3.out, Hb4.out, btrans hbw (btrans B3 B4)⟩
set_option maxHeartbeats 4000000 in
theorem refDraw_any (w : World) {a0 : Option Addr} {n0 c0 : Nat} {sec a b c : List UInt8} (hs : BS w a0 n0 c0 sec) (h0 : n0 ≤ 549755813888) (hD : KS sec a b c) :
    Calls Tryd.prog 13 #[.slice a0 n0 c0] w fun e w' => e = .returned (.agg ((a ++ b ++ c).map B).toArray) ∧ Below w.heap.size w w' := by
  have hZ := AB_zeros33 w rfl
  have hb := below_alloc w (.cells Tryd.zeroCells33 33)
  have hs1 := RS.alloc hs (.cells Tryd.zeroCells33 33)
  have hbt := built3 Tryd.underlying33 rz (by kernel_rfl) hD.ha.len hD.hb.len hD.hc.len
  have hkl := hD.len
  have hia := Lib.hid (len32 hD.ha.len)
  have hic := Lib.hid (len32 hD.hc.len)
  have hib := Lib.hid (show (Tryd.prog.info? 31).map (·.size) = some (b.map B).length by rw [List.length_map, hD.hb.len]; exact i12)
  obtain ⟨D, hDe⟩ : ∃ D, a ++ b ++ c = D := ⟨_, rfl⟩
  rw [hDe] at hbt hkl ⊢
  have Hi2 := Lib.hid (show (Tryd.prog.info? 33).map (·.size) = some (D.map B).toArray.size by rw [List.size_toArray, List.length_map, hkl]; exact r76)
  have Hbt := Lib.hid hbt
  clear hDe hs hbt
  go_enter Tryd.func13, Tryd.ntmps13
  go_upto_region 1 with (fail)
  generalize (World.alloc _ _) = W1 at *
  go_upto_region 2 with (go_at_call 30; refine (refLabel_32 _ _ hs1 h0 (by decide) hD.ha).mono ?_; rintro e w2 ⟨a2, c2, rfl, hb2, B2, hn2⟩)
  have hs2 := RS.below hs1 B2 (Nat.le_refl _)
  go_upto_region 3 with (go_at_call 30; refine (refLabel_12 _ _ hs2 h0 (by decide) hD.hb).mono ?_; rintro e w3 ⟨a3, c3, rfl, hb3, B3, hn3⟩)
  have hs3 := RS.below hs2 B3 (Nat.le_refl _)
  go_upto_region 4 with (go_at_call 30; refine (refLabel_32 _ _ hs3 h0 (by decide) hD.hc).mono ?_; rintro e w4 ⟨a4, c4, rfl, hb4, B4, hn4⟩)
  have B34 := btrans B3 B4
  have B24 := btrans B2 B34
  have hb2' : BS w4 a2 32 c2 a := RS.below hb2 B34 (Nat.le_refl _)
  have hb3' : BS w4 a3 12 c3 b := RS.below hb3 B4 (Nat.le_refl _)
  obtain ⟨x2, y2, rfl, -⟩ := hb2'.at_ (by omega)
  obtain ⟨x3, y3, rfl, -⟩ := hb3'.at_ (by omega)
  obtain ⟨x4, y4, rfl, -⟩ := hb4.at_ (by omega)
  have r2 := hb2'.range
  have r3 := hb3'.range
  have r4 := hb4.range
  have l2 : x2 < w4.heap.size := RS.block_lt hb2' rfl (by omega) (by omega)
  have l3 : x3 < w4.heap.size := RS.block_lt hb3' rfl (by omega) (by omega)
  have l4 : x4 < w4.heap.size := RS.block_lt hb4 rfl (by omega) (by omega)
  have m2 : W1.heap.size ≤ x2 := hn2 _ rfl
  have m3 : w2.heap.size ≤ x3 := hn3 _ rfl
  have m4 : w3.heap.size ≤ x4 := hn4 _ rfl
  have z2 := B2.size
  have z3 := B3.size
  have hg := hZ.lt
  have hZ4 : AB w4.drew w.heap.size 33 (List.replicate 76 0) := (hZ.bel B24 hZ.lt : AB w4 w.heap.size 33 (List.replicate 76 0))
  have hu32 := Tryd.underlying22
  have hu12 := Tryd.underlying31
  have s2 := hia.out
  have s3 := hib.out
  have s4 := hic.out
  have hbw := hb.trans (B24.mono hb.size)
  have p2 : ∀ w', (Instr.arrayAt 22 (.slice (some ⟨x2, y2, none⟩) 32 c2)).run Tryd.prog w' = .ok (.pointer (some ⟨x2, y2, none⟩)) w' := run_arrayAt hu32 _ 32 _ (Nat.le_refl _)
  have p3 : ∀ w', (Instr.arrayAt 31 (.slice (some ⟨x3, y3, none⟩) 12 c3)).run Tryd.prog w' = .ok (.pointer (some ⟨x3, y3, none⟩)) w' := run_arrayAt hu12 _ 12 _ (Nat.le_refl _)
  have p4 : ∀ w', (Instr.arrayAt 22 (.slice (some ⟨x4, y4, none⟩) 32 c4)).run Tryd.prog w' = .ok (.pointer (some ⟨x4, y4, none⟩)) w' := run_arrayAt hu32 _ 32 _ (Nat.le_refl _)
  clear hb2 hb3 hb4 hb2' hb3' hn2 hn3 hn4 hs1 hs2 hs3 B2 B3 B4 B34 B24
  refine wp_region_noPanic ?_
  refine wp_region_held_drew (S := fun w' => w'.rangeAt x2 y2 (a.map B) ∧ w'.rangeAt x3 y3 (b.map B) ∧ w'.rangeAt x4 y4 (c.map B)) (by kernel_rfl) ⟨r2, r3, r4⟩ (fun hHeld => ?_)
  refine wpAnyH_take (i := 0) (v := .slice (some ⟨x2, y2, none⟩) 32 c2) rfl (by kernel_rfl) (by kernel_rfl) (by kernel_rfl) (fun _ _ _ h => h) (Or.inl ⟨by rfl, fun w h => by go_simp⟩) hHeld ?_
  try simp only [Act.put, List.getElem_toArray, List.getElem_cons_zero, List.setIfInBounds_toArray, List.set_cons_zero, List.set_cons_succ]
  refine wpAnyH_take (i := 1) (v := .pointer (some ⟨x2, y2, none⟩)) rfl (by kernel_rfl) (by kernel_rfl) (by kernel_rfl) (fun _ _ _ h => h) (Or.inl ⟨by rfl, fun w h => by go_simp⟩) hHeld ?_
  try simp only [Act.put, List.getElem_toArray, List.getElem_cons_succ, List.getElem_cons_zero, List.setIfInBounds_toArray, List.set_cons_zero, List.set_cons_succ]
  refine wpAnyH_take (i := 2) rfl (by kernel_rfl) (by kernel_rfl) (by kernel_rfl) (fun _ _ _ h => h) (yieldsIf_load_mid (by rfl) _ _ rfl _ _ rfl _ _ (fun w h => h.1) hu32 rfl s2) hHeld ?_
  try simp only [Act.put, List.getElem_toArray, List.getElem_cons_succ, List.getElem_cons_zero, List.setIfInBounds_toArray, List.set_cons_zero, List.set_cons_succ]
  refine wpAnyH_take (i := 3) (v := .slice (some ⟨x3, y3, none⟩) 12 c3) rfl (by kernel_rfl) (by kernel_rfl) (by kernel_rfl) (fun _ _ _ h => h) (Or.inl ⟨by rfl, fun w h => by go_simp⟩) hHeld ?_
  try simp only [Act.put, List.getElem_toArray, List.getElem_cons_succ, List.getElem_cons_zero, List.setIfInBounds_toArray, List.set_cons_zero, List.set_cons_succ]
  refine wpAnyH_take (i := 4) (v := .pointer (some ⟨x3, y3, none⟩)) rfl (by kernel_rfl) (by kernel_rfl) (by kernel_rfl) (fun _ _ _ h => h) (Or.inl ⟨by rfl, fun w h => by go_simp⟩) hHeld ?_
  try simp only [Act.put, List.getElem_toArray, List.getElem_cons_succ, List.getElem_cons_zero, List.setIfInBounds_toArray, List.set_cons_zero, List.set_cons_succ]
  refine wpAnyH_take (i := 5) rfl (by kernel_rfl) (by kernel_rfl) (by kernel_rfl) (fun _ _ _ h => h) (yieldsIf_load_mid (by rfl) _ _ rfl _ _ rfl _ _ (fun w h => h.2.1) hu12 rfl s3) hHeld ?_
  try simp only [Act.put, List.getElem_toArray, List.getElem_cons_succ, List.getElem_cons_zero, List.setIfInBounds_toArray, List.set_cons_zero, List.set_cons_succ]
  refine wpAnyH_take (i := 6) (v := .slice (some ⟨x4, y4, none⟩) 32 c4) rfl (by kernel_rfl) (by kernel_rfl) (by kernel_rfl) (fun _ _ _ h => h) (Or.inl ⟨by rfl, fun w h => by go_simp⟩) hHeld ?_
  try simp only [Act.put, List.getElem_toArray, List.getElem_cons_succ, List.getElem_cons_zero, List.setIfInBounds_toArray, List.set_cons_zero, List.set_cons_succ]
  refine wpAnyH_take (i := 7) (v := .pointer (some ⟨x4, y4, none⟩)) rfl (by kernel_rfl) (by kernel_rfl) (by kernel_rfl) (fun _ _ _ h => h) (Or.inl ⟨by rfl, fun w h => by go_simp⟩) hHeld ?_
  try simp only [Act.put, List.getElem_toArray, List.getElem_cons_succ, List.getElem_cons_zero, List.setIfInBounds_toArray, List.set_cons_zero, List.set_cons_succ]
  refine wpAnyH_take (i := 8) rfl (by kernel_rfl) (by kernel_rfl) (by kernel_rfl) (fun _ _ _ h => h) (yieldsIf_load_mid (by rfl) _ _ rfl _ _ rfl _ _ (fun w h => h.2.2) hu32 rfl s4) hHeld ?_
  try simp only [Act.put, List.getElem_toArray, List.getElem_cons_succ, List.getElem_cons_zero, List.setIfInBounds_toArray, List.set_cons_zero, List.set_cons_succ]
  refine wpAnyH_ready (rs := [9]) (by kernel_rfl) (by simp) (AllReadyH.cons rfl (fun K hK => ?_) AllReadyH.nil)
  refine S_build rfl _ _ rfl (by simp only [List.map_toArray, List.map_cons, List.map_nil]; exact Hbt.out) ?_
  refine hK.out _ _ hHeld (fun hHeld => ?_)
  clear hK K
  try simp only [Act.put, List.getElem_toArray, List.getElem_cons_succ, List.getElem_cons_zero, List.setIfInBounds_toArray, List.set_cons_zero, List.set_cons_succ]
  refine wpAnyH_ready (rs := [10]) (by kernel_rfl) (by simp) (AllReadyH.cons rfl (fun K hK => ?_) AllReadyH.nil)
  refine S_storeA rfl _ _ _ rfl rfl rfl hZ4 r76 (by simp) hkl ?_
  intro w7 hA7 hg7
  refine hK.out _ _ ⟨?_, ?_, ?_⟩ (fun hHeld => ?_)
  · exact fun j v hv => (World.cell?_of_block (a := ⟨x2, y2 + j, none⟩) (hg7.block x2 l2 (by simp; omega))).trans (r2 j v hv)
  · exact fun j v hv => (World.cell?_of_block (a := ⟨x3, y3 + j, none⟩) (hg7.block x3 l3 (by simp; omega))).trans (r3 j v hv)
  · exact fun j v hv => (World.cell?_of_block (a := ⟨x4, y4 + j, none⟩) (hg7.block x4 l4 (by simp; omega))).trans (r4 j v hv)
  clear hK K
  refine wpAnyH_done (by kernel_rfl) ?_ _
  refine NoPanic.normal ?_
  try simp only [Act.put, List.getElem_toArray, List.getElem_cons_succ, List.getElem_cons_zero]
  go_wp2
  have hbd : Below w.heap.size w w4.drew := ⟨hbw.os, hbw.tape, hbw.output, hbw.size, hbw.block⟩
  exact bodyPost_ret_by (results_cell_row rfl _ _ _ _ _ _ _ rfl hA7 Tryd.underlying33 rfl Hi2.out) rfl ⟨rfl, hbd.grown hg7 hbd.size (fun k hk => by cases hk; exact Nat.le_refl _)⟩
end Go.Proofs.YtlncnjcbgfeaoaaDoor

/- Keys compared; a struct built of its last part; law06.awake. -/
set_option maxRecDepth 100000
set_option linter.unusedVariables false
namespace Go.Proofs.YtlncnjcbgfeaoaaDoor
open Go.RowKit Go.Joins
theorem run_partA {t e : TypeId} {k : Nat} (hu : Tryd.prog.underlying t = some (.array k e)) {n : Nat} (hi : (Tryd.prog.info? t).map (·.size) = some n) (cs : Array Value) (off : Nat) (w : World) : (part t cs off).run Tryd.prog w = .ok (.agg (cs.extract off (off + n))) w := by
  cases hq : Tryd.prog.info? t with
  | none => simp [hq] at hi
  | some i =>
    have hs : i.size = n := by simpa [hq] using hi
    have hagg : (isAgg t).run Tryd.prog w = .ok true w := by
      unfold isAgg
      rw [Sem.run_bind, run_underlying hu w]
      rfl
    simp [part, Sem.run_bind, hagg, sizeOf, typeInfo, hq, hs]
theorem extract_map (D : List UInt8) (o n : Nat) : (D.map B).toArray.extract o (o + n) = (((D.drop o).take n).map B).toArray := by
  simp [List.extract_eq_take_drop, List.map_take, List.map_drop]
theorem szU8 : ∀ w, (Go.sizeOf 5).run Tryd.prog w = .ok 1 w := fun w => by have := tB.sizeOf (w := w); rwa [tB.elem] at this
theorem eq_fields (D : List UInt8) (hD : D.length = 76) (w : World) : ∀ fs : List Field, (fs.all fun f => (f.type == 22 && decide (f.offset + 32 ≤ 76)) || (f.type == 31 && decide (f.offset + 12 ≤ 76))) = true →
    (Op.eqFields 9999 (D.map B).toArray (D.map B).toArray fs).run Tryd.prog w = .ok true w := by
  intro fs
  induction fs with
  | nil => intro _; simp [Op.eqFields]
  | cons f fs ih =>
    intro h
    rw [List.all_cons, Bool.and_eq_true] at h
    have ih := ih h.2
    have h1 := h.1
    rw [Bool.or_eq_true, Bool.and_eq_true, Bool.and_eq_true, decide_eq_true_eq, decide_eq_true_eq, beq_iff_eq, beq_iff_eq] at h1
    have key : ∃ xs, (part f.type (D.map B).toArray f.offset).run Tryd.prog w = .ok (.agg xs) w ∧ (Op.equalIn 9999 f.type (.agg xs) (.agg xs)).run Tryd.prog w = .ok true w := by
      rcases h1 with ⟨ht, ho⟩ | ⟨ht, ho⟩
      · refine ⟨_, by rw [ht]; exact run_partA Tryd.underlying22 i32 _ _ w, ?_⟩
        rw [extract_map, ht]
        have hl : ((D.drop f.offset).take 32).length = 32 := by rw [List.length_take, List.length_drop]; omega
        have h2 := run_equalIn_bytes (P := Tryd.prog) w 9997 22 5 32 Tryd.underlying22 Tryd.underlying5 szU8 _ _ hl hl
        rw [beq_self_eq_true] at h2
        exact h2
      · refine ⟨_, by rw [ht]; exact run_partA Tryd.underlying31 i12 _ _ w, ?_⟩
        rw [extract_map, ht]
        have hl : ((D.drop f.offset).take 12).length = 12 := by rw [List.length_take, List.length_drop]; omega
        have h2 := run_equalIn_bytes (P := Tryd.prog) w 9997 31 5 12 Tryd.underlying31 Tryd.underlying5 szU8 _ _ hl hl
        rw [beq_self_eq_true] at h2
        exact h2
    obtain ⟨xs, k1, k2⟩ := key
    rw [Op.eqFields]
    split
    · simp [Sem.run_bind, k1, k2, ih, Result.andThen]
    · exact ih
theorem eq_keys {D : List UInt8} (hD : D.length = 76) (w : World) : (Op.equalIn 10000 33 (.agg (D.map B).toArray) (.agg (D.map B).toArray)).run Tryd.prog w = .ok true w := by
  rw [run_equalIn_struct w 9999 33 _ _ (by kernel_rfl) (by kernel_rfl)]
  exact eq_fields D hD w _ (by kernel_rfl)
/-- a struct built of its third part alone: the others are naught -/
theorem built1 {P : Program} {t : TypeId} {fields : Array Field} (hu : P.underlying t = some (.struct fields)) (hz : (P.info? t).map (fun i => i.zero.map (·.cells)) = some (some ((List.replicate 76 (0 : UInt8)).map B).toArray))
    (hp : fields.toList.mapM (fun f => (P.info? f.type).map fun i => (f.offset, i.size)) = some [(0, 32), (32, 12), (44, 32)]) {c : List UInt8} (hc : c.length = 32) :
    P.built t [(2, .agg (c.map B).toArray)] = some ((List.replicate 44 0 ++ c).map B).toArray := by
  cases hq : P.info? t with
  | none => simp [hq] at hz
  | some it =>
    cases hzz : it.zero with
    | none => simp [hq, hzz] at hz
    | some z =>
      have hsz : z.cells = ((List.replicate 76 (0 : UInt8)).map B).toArray := by simpa [hq, hzz] using hz
      unfold Program.built
      rw [hq, hu]
      simp only [hzz, hp]
      rw [fill_cons _ _ 2 (c.map B) _ 44 32 rfl (by rw [List.length_map, hc]) (by rw [hsz]; simp)]
      rw [Instr.fill, hsz]
      congr 2
      rw [List.map_append]
      have e1 : (((List.replicate 76 (0 : UInt8)).map B).toArray.toList).take 44 = (List.replicate 44 (0 : UInt8)).map B := by simp
      have e2 : (((List.replicate 76 (0 : UInt8)).map B).toArray.toList).drop (44 + 32) = [] := by simp
      rw [e1, e2, List.append_nil]
theorem kzc : (Tryd.prog.info? 35).map (fun i => i.zero.map (·.cells)) = some (some ((List.replicate 76 (0 : UInt8)).map B).toArray) := by kernel_rfl
/-- the document's example -/
def nm0 : List UInt8 := [131, 148, 200, 240, 62, 81, 87, 8]
theorem awake_first : (expS (macS firstS nm0) (labS [99, 108, 105, 101, 110, 116, 32, 105, 110] [] 32) 32).take 4 = [192, 12, 241, 81] := by decide +kernel
end Go.Proofs.YtlncnjcbgfeaoaaDoor

/- law06.awake; law06.ParcelKeys: its walk. -/
set_option maxRecDepth 100000
set_option linter.unusedVariables false
namespace Go.Proofs.YtlncnjcbgfeaoaaDoor
open Go.RowKit Go.Joins
set_option maxHeartbeats 2000000 in
theorem awake06 (w : World) (hKF : KF w) (hK : KT w) : Calls Tryd.prog 8 #[] w fun e w' => e = .returned (.bool true) ∧ Below w.heap.size w w' := by
  obtain ⟨x, a, b, hF⟩ := FS_ex nm0
  have haw := awake_first
  rw [hF.hx, hF.ha.h] at haw
  have hal := hF.ha.len
  have hn := RS_new w 5 #[.int .u8 131, .int .u8 148, .int .u8 200, .int .u8 240, .int .u8 62, .int .u8 81, .int .u8 87, .int .u8 8] 8 rfl (by omega) (by simp [Value.oneCell'])
  have hn1 : BS (w.alloc (.cells #[.int .u8 131, .int .u8 148, .int .u8 200, .int .u8 240, .int .u8 62, .int .u8 81, .int .u8 87, .int .u8 8] 5)) (some ⟨w.heap.size, 0, none⟩) 8 8 nm0 := hn
  have hb := below_alloc w (.cells #[.int .u8 131, .int .u8 148, .int .u8 200, .int .u8 240, .int .u8 62, .int .u8 81, .int .u8 87, .int .u8 8] 5)
  have HK1 := Lib.hid (hK.below hb (Nat.le_refl _))
  have HF1 := Lib.hid (hKF.below hb (Nat.le_refl _))
  have HFS := Lib.hid hF
  have Haw := Lib.hid haw
  clear hn hK hKF hF haw
  go_enter Tryd.func8, Tryd.ntmps8
  go_upto_region 2 with (first
    | (go_at_call 10; refine (first_any _ hn1 (by omega) HFS.out HF1.out HK1.out).mono ?_; rintro e w2 ⟨rfl, B2⟩)
    | (refine L_store32 rfl _ _ rfl rfl rfl (AB.grown (AB_zeros _ rfl) (World.grownBy_alloc _ _ none) (by simp)) (by simp) hal ?_; intro w3 hA3 hg3)
    | (refine L_store32 rfl _ _ rfl rfl rfl (AB.grown (AB_zeros _ (by simp)) hg3 (by simp)) (by simp) HFS.out.hb.len ?_; intro w4 hA4 hg4))
  have hA4' := AB.grown hA3 hg4 (by simp)
  have hs2 := B2.size
  have b2 := hb.trans (B2.mono hb.size)
  have z2 := b2.size
  have b3 := ((b2.alloc z2 _).alloc (by simp; omega) _).grown hg3 (by simp; omega) (by intro k hk; cases hk; exact z2)
  have z3 := hg3.size
  have b4 := b3.grown hg4 b3.size (by intro k hk; cases hk; simp at z3; omega)
  have hx4 := RS.head (hA4'.bs32 hal) 4 (by omega)
  have hx4' : BS w4 (some ⟨w2.heap.size, 0, none⟩) 4 32 (a.take 4) := by unfold BS; rw [List.map_take]; exact hx4
  rw [Haw.out] at hx4'
  have hy := RS_new w4 5 #[.int .u8 192, .int .u8 12, .int .u8 241, .int .u8 81] 4 rfl (by omega) (by simp [Value.oneCell'])
  have hy4 : BS (w4.alloc (.cells #[.int .u8 192, .int .u8 12, .int .u8 241, .int .u8 81] 5)) (some ⟨w4.heap.size, 0, none⟩) 4 4 [192, 12, 241, 81] := hy
  have hx5 := RS.alloc hx4' (.cells #[.int .u8 192, .int .u8 12, .int .u8 241, .int .u8 81] 5)
  have B5 := Lib.hid (b4.alloc b4.size (.cells #[.int .u8 192, .int .u8 12, .int .u8 241, .int .u8 81] 5))
  clear hx4 hx4' hy hA3 hA4 hA4' hg3 hg4 b3 b4
  go_wp2_with (go_at_call 15; refine (same_any _ hx5 hy4).mono ?_; rintro e w6 ⟨rfl, rfl⟩; rw [beq_self_eq_true])
  go_ret
  exact ⟨rfl, B5.out⟩
end Go.Proofs.YtlncnjcbgfeaoaaDoor
