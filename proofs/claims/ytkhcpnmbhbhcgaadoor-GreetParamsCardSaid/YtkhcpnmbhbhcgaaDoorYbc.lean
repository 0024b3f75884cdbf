/- (*greet.Machine).Secrets. -/
import Derived.Test.YtkhcpnmbhbhcgaaDoorYaw
set_option maxRecDepth 100000
set_option linter.unusedVariables false
namespace Go.Proofs.YtkhcpnmbhbhcgaaDoor
open Go.RowKit Go.Joins
section
variable {w : World} {g : Nat} {S : MS} {A : MA}
def preK (S : MS) (A : MA) : List Value := ([.bool S.server, A.id.v, A.sec.v, A.par.v] ++ S.rnd.map B ++ [A.said.v, A.o0.v, A.o1.v, A.i0.v, A.i1.v, A.nx.v]) ++ S.hand.map B
theorem preK_len (ho : S.Ok) : (preK S A).length = 74 := by simp [preK, ho.rnd, ho.hand]
theorem MZ.r_p0 (h : MZ w g S A) (ho : S.Ok) : w.rangeAt g 74 (pc S.k0) := h.range (preK S A) _ (pc S.k1 ++ pc S.k2 ++ [A.pe.v, .bool S.came, .bool S.done, .int .u64 (S.wrong : Int)]) 74 (preK_len ho) (by simp only [mc, preK, List.append_assoc])
theorem MZ.r_p1 (h : MZ w g S A) (ho : S.Ok) : w.rangeAt g 139 (pc S.k1) := h.range (preK S A ++ pc S.k0) _ (pc S.k2 ++ [A.pe.v, .bool S.came, .bool S.done, .int .u64 (S.wrong : Int)]) 139 (by rw [List.length_append, preK_len ho]; simp [pc, ho.k0c, ho.k0s]) (by simp only [mc, preK, List.append_assoc])
theorem MZ.r_p2 (h : MZ w g S A) (ho : S.Ok) : w.rangeAt g 204 (pc S.k2) := h.range (preK S A ++ pc S.k0 ++ pc S.k1) _ [A.pe.v, .bool S.came, .bool S.done, .int .u64 (S.wrong : Int)] 204 (by rw [List.length_append, List.length_append, preK_len ho]; simp [pc, ho.k0c, ho.k0s, ho.k1c, ho.k1s]) (by simp only [mc, preK, List.append_assoc])
end
theorem heap_range {w : World} {k : Nat} {t : TypeId} {P : List Value} (h : w.heap[k]? = some (.cells P.toArray t (0, 0))) (pre mid post : List Value) (i : Nat) (hi : pre.length = i) (he : P = pre ++ mid ++ post) : w.rangeAt k i mid := fun j v hv => by
  have hj : j < mid.length := (List.getElem?_eq_some_iff.1 hv).1
  have h1 : w.cell? ⟨k, i + j, none⟩ = P[i + j]? := by simp [World.cell?, h]
  rw [h1, he, List.append_assoc, List.getElem?_append_right (by omega), hi, Nat.add_sub_cancel_left, List.getElem?_append_left hj]
  exact hv
theorem S_storeAB_ {w : World} {ops : Array Oper} {o : Oper} {f : Act} {K : Act → World → Prop} {Q : Exit → Act → World → Prop} {E : Prop} (hgd : o.guard = none) (t : TypeId) (x y : Operand) (ho : o.op = .store t x y)
    {g n : Nat} {old d : List UInt8} (hx : f.eval x = .pointer (some ⟨g, 0, none⟩)) (hy : f.eval y = .agg (d.map B).toArray) (hA : AB w g t old) (hi : (Tryd.prog.info? t).map (·.size) = some n) (hl : old.length = n) (hl2 : d.length = n)
    (h : ∀ w', AB w' g t d → w.grownBy w' (some g) → K (f.put o.dst undef) w') : if Region.wanted o (yielded ops f.tmps) = true then Oper.wp Tryd.prog o f w K Q else E := by
  rw [if_pos (by simp [Region.wanted, hgd])]
  refine wp_store_row t x y ho g _ hx hy t _ hA (by rw [List.size_toArray, List.length_map, hl2]; exact hi) (by simp [hl, hl2]) (by rw [Array.all_eq_true_iff_forall_mem]; intro v hv; exact one_B _ v (by simpa using hv)) ?_
  exact h _ (setRow_heap _ _ _ _ _ _ hA) (grownBy_setRow w g _)
theorem results_rows2t {P : Program} {fn : Func} {p q u : Tmp} {ty : TypeId} (h : fn.results = #[.cell p ty, .cell q ty, .tmp u]) (tmps : Array Value) (w : World) (g k : Nat) (t : TypeId) (cs ds : Array Value) (d : TypeDesc)
    (hp : tmps.getD p undef = .pointer (some ⟨g, 0, none⟩)) (hq : tmps.getD q undef = .pointer (some ⟨k, 0, none⟩)) (hg : w.heap[g]? = some (.cells cs t (0, 0))) (hk : w.heap[k]? = some (.cells ds t (0, 0)))
    (hu : P.underlying ty = some d) (hd : (match d with | .struct _ | .array _ _ => true | _ => false) = true) (hi : (P.info? ty).map (·.size) = some cs.size) (hj : (P.info? ty).map (·.size) = some ds.size) :
    (results fn tmps).run P w = .ok (.tuple #[.agg cs, .agg ds, tmps.getD u undef]) w := by
  have hp' : tmps[p]?.getD undef = .pointer (some ⟨g, 0, none⟩) := by simpa using hp
  have hq' : tmps[q]?.getD undef = .pointer (some ⟨k, 0, none⟩) := by simpa using hq
  simp [results, h, hp', hq', asAddr, run_loadVar_row w g t ty cs _ d hg hu hd hi, run_loadVar_row w k t ty ds _ d hk hu hd hj, Result.andThen]
theorem gsec_0 (w : World) {role : Nat → Nat} {g : Nat} {S : MS} {A : MA} (hM : GM w role g S A) :
    Calls Tryd.prog 15 #[.pointer (some ⟨g, 0, none⟩), .int .i64 0] w fun e w' => e = .returned (.tuple #[.agg (S.k0.c.map B).toArray, .agg (S.k0.s.map B).toArray, .bool S.k0.there]) ∧ Below w.heap.size w w' := by
  have hr := hM.row.r_p0 hM.ok
  have hi : (Tryd.prog.info? 73).map (·.size) = some (pc S.k0).length := by
    rw [show (pc S.k0).length = 65 by simp [pc, hM.ok.k0c, hM.ok.k0s]]; kernel_rfl
  have Hi := Lib.hid hi
  have HR := Lib.hid hr
  have HG := Lib.hid hM.gp.gl
  have HM := Lib.hid hM
  obtain ⟨P, hP⟩ : ∃ x, pc S.k0 = x := ⟨_, rfl⟩
  rw [hP] at Hi HR
  have HP := Lib.hid hP
  have HZL := Lib.hid (show (Tryd.zeroCells73).size = P.toArray.size by rw [← hP]; simp only [List.size_toArray]; rw [show (pc S.k0).length = 65 by simp [pc, hM.ok.k0c, hM.ok.k0s]]; kernel_rfl)
  have HZO := Lib.hid (show P.toArray.all (·.oneCell') = true by rw [← hP, Array.all_eq_true_iff_forall_mem]; intro v hv; simp only [pc, List.mem_toArray, List.mem_append, List.mem_singleton] at hv; rcases hv with (hv | hv) | hv; exact one_B _ v hv; exact one_B _ v hv; rw [hv]; rfl)
  clear hr hi hM hP
  go_enter Tryd.func15, Tryd.ntmps15
  go_upto_region 3 with (fail)
  have z2 := AB_zeros (w.alloc (.cells #[.int .u8 0, .int .u8 0, .int .u8 0, .int .u8 0, .int .u8 0, .int .u8 0, .int .u8 0, .int .u8 0, .int .u8 0, .int .u8 0, .int .u8 0, .int .u8 0, .int .u8 0, .int .u8 0, .int .u8 0, .int .u8 0, .int .u8 0, .int .u8 0, .int .u8 0, .int .u8 0, .int .u8 0, .int .u8 0, .int .u8 0, .int .u8 0, .int .u8 0, .int .u8 0, .int .u8 0, .int .u8 0, .int .u8 0, .int .u8 0, .int .u8 0, .int .u8 0] 26)) (g := w.heap.size + 1) (by simp)
  have z1 := (AB_zeros w (g := w.heap.size) rfl).al (.cells #[.int .u8 0, .int .u8 0, .int .u8 0, .int .u8 0, .int .u8 0, .int .u8 0, .int .u8 0, .int .u8 0, .int .u8 0, .int .u8 0, .int .u8 0, .int .u8 0, .int .u8 0, .int .u8 0, .int .u8 0, .int .u8 0, .int .u8 0, .int .u8 0, .int .u8 0, .int .u8 0, .int .u8 0, .int .u8 0, .int .u8 0, .int .u8 0, .int .u8 0, .int .u8 0, .int .u8 0, .int .u8 0, .int .u8 0, .int .u8 0, .int .u8 0, .int .u8 0] 26)
  have b2 := ((Below.refl w.heap.size w).alloc (Nat.le_refl _) (.cells #[.int .u8 0, .int .u8 0, .int .u8 0, .int .u8 0, .int .u8 0, .int .u8 0, .int .u8 0, .int .u8 0, .int .u8 0, .int .u8 0, .int .u8 0, .int .u8 0, .int .u8 0, .int .u8 0, .int .u8 0, .int .u8 0, .int .u8 0, .int .u8 0, .int .u8 0, .int .u8 0, .int .u8 0, .int .u8 0, .int .u8 0, .int .u8 0, .int .u8 0, .int .u8 0, .int .u8 0, .int .u8 0, .int .u8 0, .int .u8 0, .int .u8 0, .int .u8 0] 26)).alloc (by simp) (.cells #[.int .u8 0, .int .u8 0, .int .u8 0, .int .u8 0, .int .u8 0, .int .u8 0, .int .u8 0, .int .u8 0, .int .u8 0, .int .u8 0, .int .u8 0, .int .u8 0, .int .u8 0, .int .u8 0, .int .u8 0, .int .u8 0, .int .u8 0, .int .u8 0, .int .u8 0, .int .u8 0, .int .u8 0, .int .u8 0, .int .u8 0, .int .u8 0, .int .u8 0, .int .u8 0, .int .u8 0, .int .u8 0, .int .u8 0, .int .u8 0, .int .u8 0, .int .u8 0] 26)
  generalize hW : (w.alloc (.cells #[.int .u8 0, .int .u8 0, .int .u8 0, .int .u8 0, .int .u8 0, .int .u8 0, .int .u8 0, .int .u8 0, .int .u8 0, .int .u8 0, .int .u8 0, .int .u8 0, .int .u8 0, .int .u8 0, .int .u8 0, .int .u8 0, .int .u8 0, .int .u8 0, .int .u8 0, .int .u8 0, .int .u8 0, .int .u8 0, .int .u8 0, .int .u8 0, .int .u8 0, .int .u8 0, .int .u8 0, .int .u8 0, .int .u8 0, .int .u8 0, .int .u8 0, .int .u8 0] 26)).alloc (.cells #[.int .u8 0, .int .u8 0, .int .u8 0, .int .u8 0, .int .u8 0, .int .u8 0, .int .u8 0, .int .u8 0, .int .u8 0, .int .u8 0, .int .u8 0, .int .u8 0, .int .u8 0, .int .u8 0, .int .u8 0, .int .u8 0, .int .u8 0, .int .u8 0, .int .u8 0, .int .u8 0, .int .u8 0, .int .u8 0, .int .u8 0, .int .u8 0, .int .u8 0, .int .u8 0, .int .u8 0, .int .u8 0, .int .u8 0, .int .u8 0, .int .u8 0, .int .u8 0] 26) = W2 at z1 z2 b2 ⊢
  have hs2 : W2.heap.size = w.heap.size + 2 := by rw [← hW]; simp
  clear hW
  have hrV := rng_bel HR.out b2 HG.out
  go_upto_region 4 with (first
    | (refine wpList_load_mid rfl _ _ rfl _ _ rfl P _ hrV Tryd.underlying73 rfl Hi.out ?_)
    | (refine wpList_store_row rfl 73 _ _ rfl _ _ rfl rfl 73 _ (by rw [← hs2]; exact heap_alloc_new W2 _) (by rw [List.size_toArray]; exact Hi.out) HZL.out HZO.out ?_))
  have hk0 : (W2.alloc (.cells Tryd.zeroCells73 73)).heap[w.heap.size + 2]? = some (.cells Tryd.zeroCells73 73 (0, 0)) := by rw [← hs2]; exact heap_alloc_new W2 _
  have hk3 := setRow_heap _ _ _ P.toArray _ _ hk0
  have hgr := grownBy_setRow (W2.alloc (.cells Tryd.zeroCells73 73)) (w.heap.size + 2) P.toArray
  have b3 := (b2.alloc (by omega) (.cells Tryd.zeroCells73 73)).grown hgr (by simp; omega) (fun k hk => by cases hk; omega)
  have y1 := (z1.al (.cells Tryd.zeroCells73 73)).grown hgr (by simp)
  have y2 := (z2.al (.cells Tryd.zeroCells73 73)).grown hgr (by simp)
  have b4 := b3.drew
  obtain ⟨W3, hW3⟩ : ∃ x, (W2.alloc (.cells Tryd.zeroCells73 73)).setRow (w.heap.size + 2) P.toArray = x := ⟨_, rfl⟩
  rw [hW3] at hk3 b3 y1 y2 b4 ⊢
  obtain ⟨V, hV⟩ : ∃ x, W3.drew = x := ⟨_, rfl⟩
  have v3 : V.heap[w.heap.size + 2]? = some (.cells P.toArray 73 (0, 0)) := by rw [← hV]; exact hk3
  have v1 : AB V w.heap.size 26 (List.replicate 32 0) := by rw [← hV]; exact y1
  have v2 : AB V (w.heap.size + 1) 26 (List.replicate 32 0) := by rw [← hV]; exact y2
  rw [hV] at b4
  have hCl := HM.out.ok.k0c
  have hDl := HM.out.ok.k0s
  have hi32 : (Tryd.prog.info? 26).map (·.size) = some 32 := by kernel_rfl
  have hPe : P = S.k0.c.map B ++ (S.k0.s.map B ++ [.bool S.k0.there]) := by rw [← HP.out]; simp only [pc, List.append_assoc]
  obtain ⟨C, hC⟩ : ∃ x, S.k0.c = x := ⟨_, rfl⟩
  obtain ⟨D, hD⟩ : ∃ x, S.k0.s = x := ⟨_, rfl⟩
  obtain ⟨tt, ht⟩ : ∃ x, S.k0.there = x := ⟨_, rfl⟩
  have hiC : (Tryd.prog.info? 26).map (·.size) = some (C.map B).length := by rw [List.length_map, ← hC, hCl]; exact hi32
  have hiD : (Tryd.prog.info? 26).map (·.size) = some (D.map B).length := by rw [List.length_map, ← hD, hDl]; exact hi32
  rw [hC, hD, ht] at hPe
  rw [hC] at hCl
  rw [hD] at hDl
  have rC : ∀ W : World, W.heap[w.heap.size + 2]? = some (.cells P.toArray 73 (0, 0)) → W.rangeAt (w.heap.size + 2) 0 (C.map B) := fun W h => heap_range h [] _ _ 0 rfl (by rw [hPe, List.nil_append])
  have rD : ∀ W : World, W.heap[w.heap.size + 2]? = some (.cells P.toArray 73 (0, 0)) → W.rangeAt (w.heap.size + 2) 32 (D.map B) := fun W h => heap_range h (C.map B) _ [.bool tt] 32 (by rw [List.length_map]; exact hCl) (by rw [hPe, List.append_assoc])
  have rT : ∀ W : World, W.heap[w.heap.size + 2]? = some (.cells P.toArray 73 (0, 0)) → W.cell? ⟨w.heap.size + 2, 64, none⟩ = some (.bool tt) := fun W h => heap_range h (C.map B ++ D.map B) [.bool tt] [] 64 (by simp [hCl, hDl]) (by rw [hPe]; simp) 0 _ rfl
  have HRS := Lib.hid (And.intro rC (And.intro rD rT))
  have HCDT := Lib.hid (And.intro hC (And.intro hD ht))
  have Hi32 := Lib.hid hi32
  clear rC rD rT hC hD ht hPe hi32 hk3 hk0 hgr b3 y1 y2 z1 z2 b2 hW3 hrV
  refine wp_region_held_drew (S := fun W => W.heap[w.heap.size + 2]? = some (.cells P.toArray 73 (0, 0))) (by kernel_rfl) (by rw [hV]; exact v3) (fun hHeld => ?_)
  rw [hV] at hHeld ⊢
  refine wpAnyH_take (i := 0) (v := .pointer (some ⟨w.heap.size + 2, 0, none⟩)) rfl (by kernel_rfl) (by kernel_rfl) (by kernel_rfl) (fun _ _ _ h => h) (Or.inl ⟨by rfl, fun w h => by go_simp⟩) hHeld ?_
  try simp only [Act.put, List.getElem_toArray, List.getElem_cons_zero, List.setIfInBounds_toArray, List.set_cons_zero, List.set_cons_succ]
  refine wpAnyH_take (i := 1) rfl (by kernel_rfl) (by kernel_rfl) (by kernel_rfl) (fun _ _ _ h => h) (yieldsIf_load_mid (by rfl) _ _ rfl _ _ rfl _ _ (fun w h => HRS.out.1 _ h) Tryd.underlying26 rfl hiC) hHeld ?_
  try simp only [Act.put, List.getElem_toArray, List.getElem_cons_succ, List.getElem_cons_zero, List.setIfInBounds_toArray, List.set_cons_zero, List.set_cons_succ]
  refine wpAnyH_take (i := 2) (v := .pointer (some ⟨w.heap.size + 2, 32, none⟩)) rfl (by kernel_rfl) (by kernel_rfl) (by kernel_rfl) (fun _ _ _ h => h) (Or.inl ⟨by rfl, fun w h => by go_simp⟩) hHeld ?_
  try simp only [Act.put, List.getElem_toArray, List.getElem_cons_succ, List.getElem_cons_zero, List.setIfInBounds_toArray, List.set_cons_zero, List.set_cons_succ]
  refine wpAnyH_take (i := 3) rfl (by kernel_rfl) (by kernel_rfl) (by kernel_rfl) (fun _ _ _ h => h) (yieldsIf_load_mid (by rfl) _ _ rfl _ _ rfl _ _ (fun w h => HRS.out.2.1 _ h) Tryd.underlying26 rfl hiD) hHeld ?_
  try simp only [Act.put, List.getElem_toArray, List.getElem_cons_succ, List.getElem_cons_zero, List.setIfInBounds_toArray, List.set_cons_zero, List.set_cons_succ]
  refine wpAnyH_take (i := 4) (v := .pointer (some ⟨w.heap.size + 2, 64, none⟩)) rfl (by kernel_rfl) (by kernel_rfl) (by kernel_rfl) (fun _ _ _ h => h) (Or.inl ⟨by rfl, fun w h => by go_simp⟩) hHeld ?_
  try simp only [Act.put, List.getElem_toArray, List.getElem_cons_succ, List.getElem_cons_zero, List.setIfInBounds_toArray, List.set_cons_zero, List.set_cons_succ]
  refine wpAnyH_take (i := 5) (v := .bool tt) rfl (by kernel_rfl) (by kernel_rfl) (by kernel_rfl) (fun _ _ _ h => h) (Or.inl ⟨by rfl, fun W h => by have h2 := HRS.out.2.2 W h; go_simp⟩) hHeld ?_
  try simp only [Act.put, List.getElem_toArray, List.getElem_cons_succ, List.getElem_cons_zero, List.setIfInBounds_toArray, List.set_cons_zero, List.set_cons_succ]
  refine wpAnyH_ready (rs := [6]) (by kernel_rfl) (by simp) (AllReadyH.cons rfl (fun K hK => ?_) AllReadyH.nil)
  refine S_storeAB_ rfl _ _ _ rfl rfl rfl v1 Hi32.out (by simp) hCl ?_
  intro w6 hA6 hg6
  have k6 : w6.heap[w.heap.size + 2]? = some (.cells P.toArray 73 (0, 0)) := (hg6.block _ (by have := (Array.getElem?_eq_some_iff.1 v3).1; exact this) (by simp)).trans v3
  have v2' := v2.grown hg6 (by simp)
  refine hK.out _ _ k6 (fun hHeld => ?_)
  clear hK K
  try simp only [Act.put, List.getElem_toArray, List.getElem_cons_succ, List.getElem_cons_zero]
  refine wpAnyH_ready (rs := [7]) (by kernel_rfl) (by simp) (AllReadyH.cons rfl (fun K hK => ?_) AllReadyH.nil)
  refine S_storeAB_ rfl _ _ _ rfl rfl rfl v2' Hi32.out (by simp) hDl ?_
  intro w7 hA7 hg7
  have k7 : w7.heap[w.heap.size + 2]? = some (.cells P.toArray 73 (0, 0)) := (hg7.block _ (by have := (Array.getElem?_eq_some_iff.1 k6).1; exact this) (by simp)).trans k6
  have hA6' := hA6.grown hg7 (by simp)
  refine hK.out _ _ k7 (fun hHeld => ?_)
  clear hK K
  try simp only [Act.put, List.getElem_toArray, List.getElem_cons_succ, List.getElem_cons_zero]
  refine wpAnyH_take (i := 8) (v := .bool tt) rfl (by kernel_rfl) (by kernel_rfl) (by kernel_rfl) (fun _ _ _ h => h) (Or.inl ⟨by rfl, fun w h => by go_simp⟩) hHeld ?_
  try simp only [Act.put, List.getElem_toArray, List.getElem_cons_succ, List.getElem_cons_zero, List.setIfInBounds_toArray, List.set_cons_zero, List.set_cons_succ]
  refine wpAnyH_done (by kernel_rfl) ?_ _
  try simp only [Act.put, List.getElem_toArray, List.getElem_cons_succ, List.getElem_cons_zero]
  have bl := (b4.grown hg6 (Nat.le_trans (Nat.le_refl _) b4.size) (fun k hk => by cases hk; omega)).grown hg7 (by have h1 := b4.size; have h2 := hg6.size; omega) (fun k hk => by cases hk; omega)
  clear hHeld
  go_wp2
  refine bodyPost_ret_by (results_rows2t rfl _ _ _ _ _ _ _ _ rfl rfl hA6' hA7 Tryd.underlying26 rfl (by simp only [List.size_toArray]; exact hiC) (by simp only [List.size_toArray]; exact hiD)) rfl ⟨?_, bl⟩
  rw [HCDT.out.1, HCDT.out.2.1, HCDT.out.2.2]; rfl
theorem gsec_1 (w : World) {role : Nat → Nat} {g : Nat} {S : MS} {A : MA} (hM : GM w role g S A) :
    Calls Tryd.prog 15 #[.pointer (some ⟨g, 0, none⟩), .int .i64 1] w fun e w' => e = .returned (.tuple #[.agg (S.k1.c.map B).toArray, .agg (S.k1.s.map B).toArray, .bool S.k1.there]) ∧ Below w.heap.size w w' := by
  have hr := hM.row.r_p1 hM.ok
  have hi : (Tryd.prog.info? 73).map (·.size) = some (pc S.k1).length := by
    rw [show (pc S.k1).length = 65 by simp [pc, hM.ok.k1c, hM.ok.k1s]]; kernel_rfl
  have Hi := Lib.hid hi
  have HR := Lib.hid hr
  have HG := Lib.hid hM.gp.gl
  have HM := Lib.hid hM
  obtain ⟨P, hP⟩ : ∃ x, pc S.k1 = x := ⟨_, rfl⟩
  rw [hP] at Hi HR
  have HP := Lib.hid hP
  have HZL := Lib.hid (show (Tryd.zeroCells73).size = P.toArray.size by rw [← hP]; simp only [List.size_toArray]; rw [show (pc S.k1).length = 65 by simp [pc, hM.ok.k1c, hM.ok.k1s]]; kernel_rfl)
  have HZO := Lib.hid (show P.toArray.all (·.oneCell') = true by rw [← hP, Array.all_eq_true_iff_forall_mem]; intro v hv; simp only [pc, List.mem_toArray, List.mem_append, List.mem_singleton] at hv; rcases hv with (hv | hv) | hv; exact one_B _ v hv; exact one_B _ v hv; rw [hv]; rfl)
  clear hr hi hM hP
  go_enter Tryd.func15, Tryd.ntmps15
  go_upto_region 3 with (fail)
  have z2 := AB_zeros (w.alloc (.cells #[.int .u8 0, .int .u8 0, .int .u8 0, .int .u8 0, .int .u8 0, .int .u8 0, .int .u8 0, .int .u8 0, .int .u8 0, .int .u8 0, .int .u8 0, .int .u8 0, .int .u8 0, .int .u8 0, .int .u8 0, .int .u8 0, .int .u8 0, .int .u8 0, .int .u8 0, .int .u8 0, .int .u8 0, .int .u8 0, .int .u8 0, .int .u8 0, .int .u8 0, .int .u8 0, .int .u8 0, .int .u8 0, .int .u8 0, .int .u8 0, .int .u8 0, .int .u8 0] 26)) (g := w.heap.size + 1) (by simp)
  have z1 := (AB_zeros w (g := w.heap.size) rfl).al (.cells #[.int .u8 0, .int .u8 0, .int .u8 0, .int .u8 0, .int .u8 0, .int .u8 0, .int .u8 0, .int .u8 0, .int .u8 0, .int .u8 0, .int .u8 0, .int .u8 0, .int .u8 0, .int .u8 0, .int .u8 0, .int .u8 0, .int .u8 0, .int .u8 0, .int .u8 0, .int .u8 0, .int .u8 0, .int .u8 0, .int .u8 0, .int .u8 0, .int .u8 0, .int .u8 0, .int .u8 0, .int .u8 0, .int .u8 0, .int .u8 0, .int .u8 0, .int .u8 0] 26)
  have b2 := ((Below.refl w.heap.size w).alloc (Nat.le_refl _) (.cells #[.int .u8 0, .int .u8 0, .int .u8 0, .int .u8 0, .int .u8 0, .int .u8 0, .int .u8 0, .int .u8 0, .int .u8 0, .int .u8 0, .int .u8 0, .int .u8 0, .int .u8 0, .int .u8 0, .int .u8 0, .int .u8 0, .int .u8 0, .int .u8 0, .int .u8 0, .int .u8 0, .int .u8 0, .int .u8 0, .int .u8 0, .int .u8 0, .int .u8 0, .int .u8 0, .int .u8 0, .int .u8 0, .int .u8 0, .int .u8 0, .int .u8 0, .int .u8 0] 26)).alloc (by simp) (.cells #[.int .u8 0, .int .u8 0, .int .u8 0, .int .u8 0, .int .u8 0, .int .u8 0, .int .u8 0, .int .u8 0, .int .u8 0, .int .u8 0, .int .u8 0, .int .u8 0, .int .u8 0, .int .u8 0, .int .u8 0, .int .u8 0, .int .u8 0, .int .u8 0, .int .u8 0, .int .u8 0, .int .u8 0, .int .u8 0, .int .u8 0, .int .u8 0, .int .u8 0, .int .u8 0, .int .u8 0, .int .u8 0, .int .u8 0, .int .u8 0, .int .u8 0, .int .u8 0] 26)
  generalize hW : (w.alloc (.cells #[.int .u8 0, .int .u8 0, .int .u8 0, .int .u8 0, .int .u8 0, .int .u8 0, .int .u8 0, .int .u8 0, .int .u8 0, .int .u8 0, .int .u8 0, .int .u8 0, .int .u8 0, .int .u8 0, .int .u8 0, .int .u8 0, .int .u8 0, .int .u8 0, .int .u8 0, .int .u8 0, .int .u8 0, .int .u8 0, .int .u8 0, .int .u8 0, .int .u8 0, .int .u8 0, .int .u8 0, .int .u8 0, .int .u8 0, .int .u8 0, .int .u8 0, .int .u8 0] 26)).alloc (.cells #[.int .u8 0, .int .u8 0, .int .u8 0, .int .u8 0, .int .u8 0, .int .u8 0, .int .u8 0, .int .u8 0, .int .u8 0, .int .u8 0, .int .u8 0, .int .u8 0, .int .u8 0, .int .u8 0, .int .u8 0, .int .u8 0, .int .u8 0, .int .u8 0, .int .u8 0, .int .u8 0, .int .u8 0, .int .u8 0, .int .u8 0, .int .u8 0, .int .u8 0, .int .u8 0, .int .u8 0, .int .u8 0, .int .u8 0, .int .u8 0, .int .u8 0, .int .u8 0] 26) = W2 at z1 z2 b2 ⊢
  have hs2 : W2.heap.size = w.heap.size + 2 := by rw [← hW]; simp
  clear hW
  have hrV := rng_bel HR.out b2 HG.out
  go_upto_region 4 with (first
    | (refine wpList_load_mid rfl _ _ rfl _ _ rfl P _ hrV Tryd.underlying73 rfl Hi.out ?_)
    | (refine wpList_store_row rfl 73 _ _ rfl _ _ rfl rfl 73 _ (by rw [← hs2]; exact heap_alloc_new W2 _) (by rw [List.size_toArray]; exact Hi.out) HZL.out HZO.out ?_))
  have hk0 : (W2.alloc (.cells Tryd.zeroCells73 73)).heap[w.heap.size + 2]? = some (.cells Tryd.zeroCells73 73 (0, 0)) := by rw [← hs2]; exact heap_alloc_new W2 _
  have hk3 := setRow_heap _ _ _ P.toArray _ _ hk0
  have hgr := grownBy_setRow (W2.alloc (.cells Tryd.zeroCells73 73)) (w.heap.size + 2) P.toArray
  have b3 := (b2.alloc (by omega) (.cells Tryd.zeroCells73 73)).grown hgr (by simp; omega) (fun k hk => by cases hk; omega)
  have y1 := (z1.al (.cells Tryd.zeroCells73 73)).grown hgr (by simp)
  have y2 := (z2.al (.cells Tryd.zeroCells73 73)).grown hgr (by simp)
  have b4 := b3.drew
  obtain ⟨W3, hW3⟩ : ∃ x, (W2.alloc (.cells Tryd.zeroCells73 73)).setRow (w.heap.size + 2) P.toArray = x := ⟨_, rfl⟩
  rw [hW3] at hk3 b3 y1 y2 b4 ⊢
  obtain ⟨V, hV⟩ : ∃ x, W3.drew = x := ⟨_, rfl⟩
  have v3 : V.heap[w.heap.size + 2]? = some (.cells P.toArray 73 (0, 0)) := by rw [← hV]; exact hk3
  have v1 : AB V w.heap.size 26 (List.replicate 32 0) := by rw [← hV]; exact y1
  have v2 : AB V (w.heap.size + 1) 26 (List.replicate 32 0) := by rw [← hV]; exact y2
  rw [hV] at b4
  have hCl := HM.out.ok.k1c
  have hDl := HM.out.ok.k1s
  have hi32 : (Tryd.prog.info? 26).map (·.size) = some 32 := by kernel_rfl
  have hPe : P = S.k1.c.map B ++ (S.k1.s.map B ++ [.bool S.k1.there]) := by rw [← HP.out]; simp only [pc, List.append_assoc]
  obtain ⟨C, hC⟩ : ∃ x, S.k1.c = x := ⟨_, rfl⟩
  obtain ⟨D, hD⟩ : ∃ x, S.k1.s = x := ⟨_, rfl⟩
  obtain ⟨tt, ht⟩ : ∃ x, S.k1.there = x := ⟨_, rfl⟩
  have hiC : (Tryd.prog.info? 26).map (·.size) = some (C.map B).length := by rw [List.length_map, ← hC, hCl]; exact hi32
  have hiD : (Tryd.prog.info? 26).map (·.size) = some (D.map B).length := by rw [List.length_map, ← hD, hDl]; exact hi32
  rw [hC, hD, ht] at hPe
  rw [hC] at hCl
  rw [hD] at hDl
  have rC : ∀ W : World, W.heap[w.heap.size + 2]? = some (.cells P.toArray 73 (0, 0)) → W.rangeAt (w.heap.size + 2) 0 (C.map B) := fun W h => heap_range h [] _ _ 0 rfl (by rw [hPe, List.nil_append])
  have rD : ∀ W : World, W.heap[w.heap.size + 2]? = some (.cells P.toArray 73 (0, 0)) → W.rangeAt (w.heap.size + 2) 32 (D.map B) := fun W h => heap_range h (C.map B) _ [.bool tt] 32 (by rw [List.length_map]; exact hCl) (by rw [hPe, List.append_assoc])
  have rT : ∀ W : World, W.heap[w.heap.size + 2]? = some (.cells P.toArray 73 (0, 0)) → W.cell? ⟨w.heap.size + 2, 64, none⟩ = some (.bool tt) := fun W h => heap_range h (C.map B ++ D.map B) [.bool tt] [] 64 (by simp [hCl, hDl]) (by rw [hPe]; simp) 0 _ rfl
  have HRS := Lib.hid (And.intro rC (And.intro rD rT))
  have HCDT := Lib.hid (And.intro hC (And.intro hD ht))
  have Hi32 := Lib.hid hi32
  clear rC rD rT hC hD ht hPe hi32 hk3 hk0 hgr b3 y1 y2 z1 z2 b2 hW3 hrV
  refine wp_region_held_drew (S := fun W => W.heap[w.heap.size + 2]? = some (.cells P.toArray 73 (0, 0))) (by kernel_rfl) (by rw [hV]; exact v3) (fun hHeld => ?_)
  rw [hV] at hHeld ⊢
  refine wpAnyH_take (i := 0) (v := .pointer (some ⟨w.heap.size + 2, 0, none⟩)) rfl (by kernel_rfl) (by kernel_rfl) (by kernel_rfl) (fun _ _ _ h => h) (Or.inl ⟨by rfl, fun w h => by go_simp⟩) hHeld ?_
  try simp only [Act.put, List.getElem_toArray, List.getElem_cons_zero, List.setIfInBounds_toArray, List.set_cons_zero, List.set_cons_succ]
  refine wpAnyH_take (i := 1) rfl (by kernel_rfl) (by kernel_rfl) (by kernel_rfl) (fun _ _ _ h => h) (yieldsIf_load_mid (by rfl) _ _ rfl _ _ rfl _ _ (fun w h => HRS.out.1 _ h) Tryd.underlying26 rfl hiC) hHeld ?_
  try simp only [Act.put, List.getElem_toArray, List.getElem_cons_succ, List.getElem_cons_zero, List.setIfInBounds_toArray, List.set_cons_zero, List.set_cons_succ]
  refine wpAnyH_take (i := 2) (v := .pointer (some ⟨w.heap.size + 2, 32, none⟩)) rfl (by kernel_rfl) (by kernel_rfl) (by kernel_rfl) (fun _ _ _ h => h) (Or.inl ⟨by rfl, fun w h => by go_simp⟩) hHeld ?_
  try simp only [Act.put, List.getElem_toArray, List.getElem_cons_succ, List.getElem_cons_zero, List.setIfInBounds_toArray, List.set_cons_zero, List.set_cons_succ]
  refine wpAnyH_take (i := 3) rfl (by kernel_rfl) (by kernel_rfl) (by kernel_rfl) (fun _ _ _ h => h) (yieldsIf_load_mid (by rfl) _ _ rfl _ _ rfl _ _ (fun w h => HRS.out.2.1 _ h) Tryd.underlying26 rfl hiD) hHeld ?_
  try simp only [Act.put, List.getElem_toArray, List.getElem_cons_succ, List.getElem_cons_zero, List.setIfInBounds_toArray, List.set_cons_zero, List.set_cons_succ]
  refine wpAnyH_take (i := 4) (v := .pointer (some ⟨w.heap.size + 2, 64, none⟩)) rfl (by kernel_rfl) (by kernel_rfl) (by kernel_rfl) (fun _ _ _ h => h) (Or.inl ⟨by rfl, fun w h => by go_simp⟩) hHeld ?_
  try simp only [Act.put, List.getElem_toArray, List.getElem_cons_succ, List.getElem_cons_zero, List.setIfInBounds_toArray, List.set_cons_zero, List.set_cons_succ]
  refine wpAnyH_take (i := 5) (v := .bool tt) rfl (by kernel_rfl) (by kernel_rfl) (by kernel_rfl) (fun _ _ _ h => h) (Or.inl ⟨by rfl, fun W h => by have h2 := HRS.out.2.2 W h; go_simp⟩) hHeld ?_
  try simp only [Act.put, List.getElem_toArray, List.getElem_cons_succ, List.getElem_cons_zero, List.setIfInBounds_toArray, List.set_cons_zero, List.set_cons_succ]
  refine wpAnyH_ready (rs := [6]) (by kernel_rfl) (by simp) (AllReadyH.cons rfl (fun K hK => ?_) AllReadyH.nil)
  refine S_storeAB_ rfl _ _ _ rfl rfl rfl v1 Hi32.out (by simp) hCl ?_
  intro w6 hA6 hg6
  have k6 : w6.heap[w.heap.size + 2]? = some (.cells P.toArray 73 (0, 0)) := (hg6.block _ (by have := (Array.getElem?_eq_some_iff.1 v3).1; exact this) (by simp)).trans v3
  have v2' := v2.grown hg6 (by simp)
  refine hK.out _ _ k6 (fun hHeld => ?_)
  clear hK K
  try simp only [Act.put, List.getElem_toArray, List.getElem_cons_succ, List.getElem_cons_zero]
  refine wpAnyH_ready (rs := [7]) (by kernel_rfl) (by simp) (AllReadyH.cons rfl (fun K hK => ?_) AllReadyH.nil)
  refine S_storeAB_ rfl _ _ _ rfl rfl rfl v2' Hi32.out (by simp) hDl ?_
  intro w7 hA7 hg7
  have k7 : w7.heap[w.heap.size + 2]? = some (.cells P.toArray 73 (0, 0)) := (hg7.block _ (by have := (Array.getElem?_eq_some_iff.1 k6).1; exact this) (by simp)).trans k6
  have hA6' := hA6.grown hg7 (by simp)
  refine hK.out _ _ k7 (fun hHeld => ?_)
  clear hK K
  try simp only [Act.put, List.getElem_toArray, List.getElem_cons_succ, List.getElem_cons_zero]
  refine wpAnyH_take (i := 8) (v := .bool tt) rfl (by kernel_rfl) (by kernel_rfl) (by kernel_rfl) (fun _ _ _ h => h) (Or.inl ⟨by rfl, fun w h => by go_simp⟩) hHeld ?_
  try simp only [Act.put, List.getElem_toArray, List.getElem_cons_succ, List.getElem_cons_zero, List.setIfInBounds_toArray, List.set_cons_zero, List.set_cons_succ]
  refine wpAnyH_done (by kernel_rfl) ?_ _
  try simp only [Act.put, List.getElem_toArray, List.getElem_cons_succ, List.getElem_cons_zero]
  have bl := (b4.grown hg6 (Nat.le_trans (Nat.le_refl _) b4.size) (fun k hk => by cases hk; omega)).grown hg7 (by have h1 := b4.size; have h2 := hg6.size; omega) (fun k hk => by cases hk; omega)
  clear hHeld
  go_wp2
  refine bodyPost_ret_by (results_rows2t rfl _ _ _ _ _ _ _ _ rfl rfl hA6' hA7 Tryd.underlying26 rfl (by simp only [List.size_toArray]; exact hiC) (by simp only [List.size_toArray]; exact hiD)) rfl ⟨?_, bl⟩
  rw [HCDT.out.1, HCDT.out.2.1, HCDT.out.2.2]; rfl
theorem gsec_2 (w : World) {role : Nat → Nat} {g : Nat} {S : MS} {A : MA} (hM : GM w role g S A) :
    Calls Tryd.prog 15 #[.pointer (some ⟨g, 0, none⟩), .int .i64 2] w fun e w' => e = .returned (.tuple #[.agg (S.k2.c.map B).toArray, .agg (S.k2.s.map B).toArray, .bool S.k2.there]) ∧ Below w.heap.size w w' := by
  have hr := hM.row.r_p2 hM.ok
  have hi : (Tryd.prog.info? 73).map (·.size) = some (pc S.k2).length := by
    rw [show (pc S.k2).length = 65 by simp [pc, hM.ok.k2c, hM.ok.k2s]]; kernel_rfl
  have Hi := Lib.hid hi
  have HR := Lib.hid hr
  have HG := Lib.hid hM.gp.gl
  have HM := Lib.hid hM
  obtain ⟨P, hP⟩ : ∃ x, pc S.k2 = x := ⟨_, rfl⟩
  rw [hP] at Hi HR
  have HP := Lib.hid hP
  have HZL := Lib.hid (show (Tryd.zeroCells73).size = P.toArray.size by rw [← hP]; simp only [List.size_toArray]; rw [show (pc S.k2).length = 65 by simp [pc, hM.ok.k2c, hM.ok.k2s]]; kernel_rfl)
  have HZO := Lib.hid (show P.toArray.all (·.oneCell') = true by rw [← hP, Array.all_eq_true_iff_forall_mem]; intro v hv; simp only [pc, List.mem_toArray, List.mem_append, List.mem_singleton] at hv; rcases hv with (hv | hv) | hv; exact one_B _ v hv; exact one_B _ v hv; rw [hv]; rfl)
  clear hr hi hM hP
  go_enter Tryd.func15, Tryd.ntmps15
  go_upto_region 3 with (fail)
  have z2 := AB_zeros (w.alloc (.cells #[.int .u8 0, .int .u8 0, .int .u8 0, .int .u8 0, .int .u8 0, .int .u8 0, .int .u8 0, .int .u8 0, .int .u8 0, .int .u8 0, .int .u8 0, .int .u8 0, .int .u8 0, .int .u8 0, .int .u8 0, .int .u8 0, .int .u8 0, .int .u8 0, .int .u8 0, .int .u8 0, .int .u8 0, .int .u8 0, .int .u8 0, .int .u8 0, .int .u8 0, .int .u8 0, .int .u8 0, .int .u8 0, .int .u8 0, .int .u8 0, .int .u8 0, .int .u8 0] 26)) (g := w.heap.size + 1) (by simp)
  have z1 := (AB_zeros w (g := w.heap.size) rfl).al (.cells #[.int .u8 0, .int .u8 0, .int .u8 0, .int .u8 0, .int .u8 0, .int .u8 0, .int .u8 0, .int .u8 0, .int .u8 0, .int .u8 0, .int .u8 0, .int .u8 0, .int .u8 0, .int .u8 0, .int .u8 0, .int .u8 0, .int .u8 0, .int .u8 0, .int .u8 0, .int .u8 0, .int .u8 0, .int .u8 0, .int .u8 0, .int .u8 0, .int .u8 0, .int .u8 0, .int .u8 0, .int .u8 0, .int .u8 0, .int .u8 0, .int .u8 0, .int .u8 0] 26)
  have b2 := ((Below.refl w.heap.size w).alloc (Nat.le_refl _) (.cells #[.int .u8 0, .int .u8 0, .int .u8 0, .int .u8 0, .int .u8 0, .int .u8 0, .int .u8 0, .int .u8 0, .int .u8 0, .int .u8 0, .int .u8 0, .int .u8 0, .int .u8 0, .int .u8 0, .int .u8 0, .int .u8 0, .int .u8 0, .int .u8 0, .int .u8 0, .int .u8 0, .int .u8 0, .int .u8 0, .int .u8 0, .int .u8 0, .int .u8 0, .int .u8 0, .int .u8 0, .int .u8 0, .int .u8 0, .int .u8 0, .int .u8 0, .int .u8 0] 26)).alloc (by simp) (.cells #[.int .u8 0, .int .u8 0, .int .u8 0, .int .u8 0, .int .u8 0, .int .u8 0, .int .u8 0, .int .u8 0, .int .u8 0, .int .u8 0, .int .u8 0, .int .u8 0, .int .u8 0, .int .u8 0, .int .u8 0, .int .u8 0, .int .u8 0, .int .u8 0, .int .u8 0, .int .u8 0, .int .u8 0, .int .u8 0, .int .u8 0, .int .u8 0, .int .u8 0, .int .u8 0, .int .u8 0, .int .u8 0, .int .u8 0, .int .u8 0, .int .u8 0, .int .u8 0] 26)
  generalize hW : (w.alloc (.cells #[.int .u8 0, .int .u8 0, .int .u8 0, .int .u8 0, .int .u8 0, .int .u8 0, .int .u8 0, .int .u8 0, .int .u8 0, .int .u8 0, .int .u8 0, .int .u8 0, .int .u8 0, .int .u8 0, .int .u8 0, .int .u8 0, .int .u8 0, .int .u8 0, .int .u8 0, .int .u8 0, .int .u8 0, .int .u8 0, .int .u8 0, .int .u8 0, .int .u8 0, .int .u8 0, .int .u8 0, .int .u8 0, .int .u8 0, .int .u8 0, .int .u8 0, .int .u8 0] 26)).alloc (.cells #[.int .u8 0, .int .u8 0, .int .u8 0, .int .u8 0, .int .u8 0, .int .u8 0, .int .u8 0, .int .u8 0, .int .u8 0, .int .u8 0, .int .u8 0, .int .u8 0, .int .u8 0, .int .u8 0, .int .u8 0, .int .u8 0, .int .u8 0, .int .u8 0, .int .u8 0, .int .u8 0, .int .u8 0, .int .u8 0, .int .u8 0, .int .u8 0, .int .u8 0, .int .u8 0, .int .u8 0, .int .u8 0, .int .u8 0, .int .u8 0, .int .u8 0, .int .u8 0] 26) = W2 at z1 z2 b2 ⊢
  have hs2 : W2.heap.size = w.heap.size + 2 := by rw [← hW]; simp
  clear hW
  have hrV := rng_bel HR.out b2 HG.out
  go_upto_region 4 with (first
    | (refine wpList_load_mid rfl _ _ rfl _ _ rfl P _ hrV Tryd.underlying73 rfl Hi.out ?_)
    | (refine wpList_store_row rfl 73 _ _ rfl _ _ rfl rfl 73 _ (by rw [← hs2]; exact heap_alloc_new W2 _) (by rw [List.size_toArray]; exact Hi.out) HZL.out HZO.out ?_))
  have hk0 : (W2.alloc (.cells Tryd.zeroCells73 73)).heap[w.heap.size + 2]? = some (.cells Tryd.zeroCells73 73 (0, 0)) := by rw [← hs2]; exact heap_alloc_new W2 _
  have hk3 := setRow_heap _ _ _ P.toArray _ _ hk0
  have hgr := grownBy_setRow (W2.alloc (.cells Tryd.zeroCells73 73)) (w.heap.size + 2) P.toArray
  have b3 := (b2.alloc (by omega) (.cells Tryd.zeroCells73 73)).grown hgr (by simp; omega) (fun k hk => by cases hk; omega)
  have y1 := (z1.al (.cells Tryd.zeroCells73 73)).grown hgr (by simp)
  have y2 := (z2.al (.cells Tryd.zeroCells73 73)).grown hgr (by simp)
  have b4 := b3.drew
  obtain ⟨W3, hW3⟩ : ∃ x, (W2.alloc (.cells Tryd.zeroCells73 73)).setRow (w.heap.size + 2) P.toArray = x := ⟨_, rfl⟩
  rw [hW3] at hk3 b3 y1 y2 b4 ⊢
  obtain ⟨V, hV⟩ : ∃ x, W3.drew = x := ⟨_, rfl⟩
  have v3 : V.heap[w.heap.size + 2]? = some (.cells P.toArray 73 (0, 0)) := by rw [← hV]; exact hk3
  have v1 : AB V w.heap.size 26 (List.replicate 32 0) := by rw [← hV]; exact y1
  have v2 : AB V (w.heap.size + 1) 26 (List.replicate 32 0) := by rw [← hV]; exact y2
  rw [hV] at b4
  have hCl := HM.out.ok.k2c
  have hDl := HM.out.ok.k2s
  have hi32 : (Tryd.prog.info? 26).map (·.size) = some 32 := by kernel_rfl
  have hPe : P = S.k2.c.map B ++ (S.k2.s.map B ++ [.bool S.k2.there]) := by rw [← HP.out]; simp only [pc, List.append_assoc]
  obtain ⟨C, hC⟩ : ∃ x, S.k2.c = x := ⟨_, rfl⟩
  obtain ⟨D, hD⟩ : ∃ x, S.k2.s = x := ⟨_, rfl⟩
  obtain ⟨tt, ht⟩ : ∃ x, S.k2.there = x := ⟨_, rfl⟩
  have hiC : (Tryd.prog.info? 26).map (·.size) = some (C.map B).length := by rw [List.length_map, ← hC, hCl]; exact hi32
  have hiD : (Tryd.prog.info? 26).map (·.size) = some (D.map B).length := by rw [List.length_map, ← hD, hDl]; exact hi32
  rw [hC, hD, ht] at hPe
  rw [hC] at hCl
  rw [hD] at hDl
  have rC : ∀ W : World, W.heap[w.heap.size + 2]? = some (.cells P.toArray 73 (0, 0)) → W.rangeAt (w.heap.size + 2) 0 (C.map B) := fun W h => heap_range h [] _ _ 0 rfl (by rw [hPe, List.nil_append])
  have rD : ∀ W : World, W.heap[w.heap.size + 2]? = some (.cells P.toArray 73 (0, 0)) → W.rangeAt (w.heap.size + 2) 32 (D.map B) := fun W h => heap_range h (C.map B) _ [.bool tt] 32 (by rw [List.length_map]; exact hCl) (by rw [hPe, List.append_assoc])
  have rT : ∀ W : World, W.heap[w.heap.size + 2]? = some (.cells P.toArray 73 (0, 0)) → W.cell? ⟨w.heap.size + 2, 64, none⟩ = some (.bool tt) := fun W h => heap_range h (C.map B ++ D.map B) [.bool tt] [] 64 (by simp [hCl, hDl]) (by rw [hPe]; simp) 0 _ rfl
  have HRS := Lib.hid (And.intro rC (And.intro rD rT))
  have HCDT := Lib.hid (And.intro hC (And.intro hD ht))
  have Hi32 := Lib.hid hi32
  clear rC rD rT hC hD ht hPe hi32 hk3 hk0 hgr b3 y1 y2 z1 z2 b2 hW3 hrV
  refine wp_region_held_drew (S := fun W => W.heap[w.heap.size + 2]? = some (.cells P.toArray 73 (0, 0))) (by kernel_rfl) (by rw [hV]; exact v3) (fun hHeld => ?_)
  rw [hV] at hHeld ⊢
  refine wpAnyH_take (i := 0) (v := .pointer (some ⟨w.heap.size + 2, 0, none⟩)) rfl (by kernel_rfl) (by kernel_rfl) (by kernel_rfl) (fun _ _ _ h => h) (Or.inl ⟨by rfl, fun w h => by go_simp⟩) hHeld ?_
  try simp only [Act.put, List.getElem_toArray, List.getElem_cons_zero, List.setIfInBounds_toArray, List.set_cons_zero, List.set_cons_succ]
  refine wpAnyH_take (i := 1) rfl (by kernel_rfl) (by kernel_rfl) (by kernel_rfl) (fun _ _ _ h => h) (yieldsIf_load_mid (by rfl) _ _ rfl _ _ rfl _ _ (fun w h => HRS.out.1 _ h) Tryd.underlying26 rfl hiC) hHeld ?_
  try simp only [Act.put, List.getElem_toArray, List.getElem_cons_succ, List.getElem_cons_zero, List.setIfInBounds_toArray, List.set_cons_zero, List.set_cons_succ]
  refine wpAnyH_take (i := 2) (v := .pointer (some ⟨w.heap.size + 2, 32, none⟩)) rfl (by kernel_rfl) (by kernel_rfl) (by kernel_rfl) (fun _ _ _ h => h) (Or.inl ⟨by rfl, fun w h => by go_simp⟩) hHeld ?_
  try simp only [Act.put, List.getElem_toArray, List.getElem_cons_succ, List.getElem_cons_zero, List.setIfInBounds_toArray, List.set_cons_zero, List.set_cons_succ]
  refine wpAnyH_take (i := 3) rfl (by kernel_rfl) (by kernel_rfl) (by kernel_rfl) (fun _ _ _ h => h) (yieldsIf_load_mid (by rfl) _ _ rfl _ _ rfl _ _ (fun w h => HRS.out.2.1 _ h) Tryd.underlying26 rfl hiD) hHeld ?_
  try simp only [Act.put, List.getElem_toArray, List.getElem_cons_succ, List.getElem_cons_zero, List.setIfInBounds_toArray, List.set_cons_zero, List.set_cons_succ]
  refine wpAnyH_take (i := 4) (v := .pointer (some ⟨w.heap.size + 2, 64, none⟩)) rfl (by kernel_rfl) (by kernel_rfl) (by kernel_rfl) (fun _ _ _ h => h) (Or.inl ⟨by rfl, fun w h => by go_simp⟩) hHeld ?_
  try simp only [Act.put, List.getElem_toArray, List.getElem_cons_succ, List.getElem_cons_zero, List.setIfInBounds_toArray, List.set_cons_zero, List.set_cons_succ]
  refine wpAnyH_take (i := 5) (v := .bool tt) rfl (by kernel_rfl) (by kernel_rfl) (by kernel_rfl) (fun _ _ _ h => h) (Or.inl ⟨by rfl, fun W h => by have h2 := HRS.out.2.2 W h; go_simp⟩) hHeld ?_
  try simp only [Act.put, List.getElem_toArray, List.getElem_cons_succ, List.getElem_cons_zero, List.setIfInBounds_toArray, List.set_cons_zero, List.set_cons_succ]
  refine wpAnyH_ready (rs := [6]) (by kernel_rfl) (by simp) (AllReadyH.cons rfl (fun K hK => ?_) AllReadyH.nil)
  refine S_storeAB_ rfl _ _ _ rfl rfl rfl v1 Hi32.out (by simp) hCl ?_
  intro w6 hA6 hg6
  have k6 : w6.heap[w.heap.size + 2]? = some (.cells P.toArray 73 (0, 0)) := (hg6.block _ (by have := (Array.getElem?_eq_some_iff.1 v3).1; exact this) (by simp)).trans v3
  have v2' := v2.grown hg6 (by simp)
  refine hK.out _ _ k6 (fun hHeld => ?_)
  clear hK K
  try simp only [Act.put, List.getElem_toArray, List.getElem_cons_succ, List.getElem_cons_zero]
  refine wpAnyH_ready (rs := [7]) (by kernel_rfl) (by simp) (AllReadyH.cons rfl (fun K hK => ?_) AllReadyH.nil)
  refine S_storeAB_ rfl _ _ _ rfl rfl rfl v2' Hi32.out (by simp) hDl ?_
  intro w7 hA7 hg7
  have k7 : w7.heap[w.heap.size + 2]? = some (.cells P.toArray 73 (0, 0)) := (hg7.block _ (by have := (Array.getElem?_eq_some_iff.1 k6).1; exact this) (by simp)).trans k6
  have hA6' := hA6.grown hg7 (by simp)
  refine hK.out _ _ k7 (fun hHeld => ?_)
  clear hK K
  try simp only [Act.put, List.getElem_toArray, List.getElem_cons_succ, List.getElem_cons_zero]
  refine wpAnyH_take (i := 8) (v := .bool tt) rfl (by kernel_rfl) (by kernel_rfl) (by kernel_rfl) (fun _ _ _ h => h) (Or.inl ⟨by rfl, fun w h => by go_simp⟩) hHeld ?_
  try simp only [Act.put, List.getElem_toArray, List.getElem_cons_succ, List.getElem_cons_zero, List.setIfInBounds_toArray, List.set_cons_zero, List.set_cons_succ]
  refine wpAnyH_done (by kernel_rfl) ?_ _
  try simp only [Act.put, List.getElem_toArray, List.getElem_cons_succ, List.getElem_cons_zero]
  have bl := (b4.grown hg6 (Nat.le_trans (Nat.le_refl _) b4.size) (fun k hk => by cases hk; omega)).grown hg7 (by have h1 := b4.size; have h2 := hg6.size; omega) (fun k hk => by cases hk; omega)
  clear hHeld
  go_wp2
  refine bodyPost_ret_by (results_rows2t rfl _ _ _ _ _ _ _ _ rfl rfl hA6' hA7 Tryd.underlying26 rfl (by simp only [List.size_toArray]; exact hiC) (by simp only [List.size_toArray]; exact hiD)) rfl ⟨?_, bl⟩
  rw [HCDT.out.1, HCDT.out.2.1, HCDT.out.2.2]; rfl
end Go.Proofs.YtkhcpnmbhbhcgaaDoor
