/- parcel.First. -/
import Derived.Test.YtlncnjcbgfeaoaaDoorK4
set_option maxRecDepth 100000
set_option linter.unusedVariables false
namespace Go.Proofs.YtlncnjcbgfeaoaaDoor
open Go.RowKit Go.Joins
def firstS : List UInt8 := [56, 118, 44, 247, 245, 89, 52, 179, 77, 23, 154, 230, 164, 200, 12, 173, 204, 187, 127, 10]
/-- the laid table of parcel -/
def KF (w : World) : Prop := w.rangeAt 0 0 (firstS.map B)
theorem KF.lt {w : World} (h : KF w) : 0 < w.heap.size := World.block_lt_of_cell? _ _ (h 0 _ rfl)
theorem KF.below {w w' : World} {n : Nat} (h : KF w) (hb : Below n w w') (hn : w.heap.size ≤ n) : KF w' := range_bel h hb (Nat.lt_of_lt_of_le h.lt hn)
theorem BS_range {w : World} {b o n : Nat} {xs : List UInt8} (h : w.rangeAt b o (xs.map B)) (hn : xs.length = n) (hm : n ≤ 140737488355328) : BS w (some ⟨b, o, none⟩) n n xs := by
  refine ⟨by simp [hn], Nat.le_refl _, by unfold maxLen; omega, one_B _, (fun h => by cases h), fun ad had => ?_⟩
  cases had
  exact ⟨fun _ => rfl, fun q v hq => h q v hq⟩
theorem results_rows2 {P : Program} {fn : Func} {p q : Tmp} {ty : TypeId} (h : fn.results = #[.cell p ty, .cell q ty]) (tmps : Array Value) (w : World) (g k : Nat) (t : TypeId) (cs ds : Array Value) (d : TypeDesc)
    (hp : tmps.getD p undef = .pointer (some ⟨g, 0, none⟩)) (hq : tmps.getD q undef = .pointer (some ⟨k, 0, none⟩)) (hg : w.heap[g]? = some (.cells cs t (0, 0))) (hk : w.heap[k]? = some (.cells ds t (0, 0)))
    (hu : P.underlying ty = some d) (hd : (match d with | .struct _ | .array _ _ => true | _ => false) = true) (hi : (P.info? ty).map (·.size) = some cs.size) (hj : (P.info? ty).map (·.size) = some ds.size) :
    (results fn tmps).run P w = .ok (.tuple #[.agg cs, .agg ds]) w := by
  have hp' : tmps[p]?.getD undef = .pointer (some ⟨g, 0, none⟩) := by simpa using hp
  have hq' : tmps[q]?.getD undef = .pointer (some ⟨k, 0, none⟩) := by simpa using hq
  simp [results, h, hp', hq', asAddr, run_loadVar_row w g t ty cs _ d hg hu hd hi, run_loadVar_row w k t ty ds _ d hk hu hd hj, Result.andThen]
/-- a name's first secrets -/
structure FS (nm x a b : List UInt8) : Prop where
  hx : macS firstS nm = x
  xl : x.length = 32
  ha : LB x [99, 108, 105, 101, 110, 116, 32, 105, 110] 32 a
  hb : LB x [115, 101, 114, 118, 101, 114, 32, 105, 110] 32 b
theorem FS_ex (nm : List UInt8) : ∃ x a b, FS nm x a b := by
  obtain ⟨x, hx⟩ : ∃ x, macS firstS nm = x := ⟨_, rfl⟩
  obtain ⟨a, ha⟩ := LB_ex x [99, 108, 105, 101, 110, 116, 32, 105, 110] 32
  obtain ⟨b, hb⟩ := LB_ex x [115, 101, 114, 118, 101, 114, 32, 105, 110] 32
  exact ⟨x, a, b, hx, by rw [← hx]; exact shaS_len _, ha, hb⟩
set_option maxHeartbeats 4000000 in
theorem first_any (w : World) {a0 : Option Addr} {n0 c0 : Nat} {nm x a b : List UInt8} (hn : BS w a0 n0 c0 nm) (h0 : n0 ≤ 549755813888) (hF : FS nm x a b) (hKF : KF w) (hK : KT w) :
    Calls Tryd.prog 10 #[.slice a0 n0 c0] w fun e w' => e = .returned (.tuple #[.agg (a.map B).toArray, .agg (b.map B).toArray]) ∧ Below w.heap.size w w' := by
  have hz1 : (w.alloc (.cells #[.int .u8 0, .int .u8 0, .int .u8 0, .int .u8 0, .int .u8 0, .int .u8 0, .int .u8 0, .int .u8 0, .int .u8 0, .int .u8 0, .int .u8 0, .int .u8 0, .int .u8 0, .int .u8 0, .int .u8 0, .int .u8 0, .int .u8 0, .int .u8 0, .int .u8 0, .int .u8 0, .int .u8 0, .int .u8 0, .int .u8 0, .int .u8 0, .int .u8 0, .int .u8 0, .int .u8 0, .int .u8 0, .int .u8 0, .int .u8 0, .int .u8 0, .int .u8 0] 22)).heap.size = w.heap.size + 1 := by simp
  have hZa := (AB_zeros w rfl).al (.cells #[.int .u8 0, .int .u8 0, .int .u8 0, .int .u8 0, .int .u8 0, .int .u8 0, .int .u8 0, .int .u8 0, .int .u8 0, .int .u8 0, .int .u8 0, .int .u8 0, .int .u8 0, .int .u8 0, .int .u8 0, .int .u8 0, .int .u8 0, .int .u8 0, .int .u8 0, .int .u8 0, .int .u8 0, .int .u8 0, .int .u8 0, .int .u8 0, .int .u8 0, .int .u8 0, .int .u8 0, .int .u8 0, .int .u8 0, .int .u8 0, .int .u8 0, .int .u8 0] 22)
  have hZb := AB_zeros (w.alloc (.cells #[.int .u8 0, .int .u8 0, .int .u8 0, .int .u8 0, .int .u8 0, .int .u8 0, .int .u8 0, .int .u8 0, .int .u8 0, .int .u8 0, .int .u8 0, .int .u8 0, .int .u8 0, .int .u8 0, .int .u8 0, .int .u8 0, .int .u8 0, .int .u8 0, .int .u8 0, .int .u8 0, .int .u8 0, .int .u8 0, .int .u8 0, .int .u8 0, .int .u8 0, .int .u8 0, .int .u8 0, .int .u8 0, .int .u8 0, .int .u8 0, .int .u8 0, .int .u8 0] 22)) rfl
  have hb : Below w.heap.size w _ := (below_alloc w (.cells #[.int .u8 0, .int .u8 0, .int .u8 0, .int .u8 0, .int .u8 0, .int .u8 0, .int .u8 0, .int .u8 0, .int .u8 0, .int .u8 0, .int .u8 0, .int .u8 0, .int .u8 0, .int .u8 0, .int .u8 0, .int .u8 0, .int .u8 0, .int .u8 0, .int .u8 0, .int .u8 0, .int .u8 0, .int .u8 0, .int .u8 0, .int .u8 0, .int .u8 0, .int .u8 0, .int .u8 0, .int .u8 0, .int .u8 0, .int .u8 0, .int .u8 0, .int .u8 0] 22)).alloc (by simp) (.cells #[.int .u8 0, .int .u8 0, .int .u8 0, .int .u8 0, .int .u8 0, .int .u8 0, .int .u8 0, .int .u8 0, .int .u8 0, .int .u8 0, .int .u8 0, .int .u8 0, .int .u8 0, .int .u8 0, .int .u8 0, .int .u8 0, .int .u8 0, .int .u8 0, .int .u8 0, .int .u8 0, .int .u8 0, .int .u8 0, .int .u8 0, .int .u8 0, .int .u8 0, .int .u8 0, .int .u8 0, .int .u8 0, .int .u8 0, .int .u8 0, .int .u8 0, .int .u8 0] 22)
  rw [hz1] at hZb
  have HK1 := Lib.hid (hK.below hb (Nat.le_refl _))
  have HF1 := Lib.hid (hKF.below hb (Nat.le_refl _))
  have hn1 := RS.below hn hb (Nat.le_refl _)
  have hj32 := Lib.hid (len32 hF.xl)
  have hia := Lib.hid (show (Tryd.prog.info? 22).map (·.size) = some (a.map B).toArray.size by rw [List.size_toArray]; exact len32 hF.ha.len)
  have hib := Lib.hid (show (Tryd.prog.info? 22).map (·.size) = some (b.map B).toArray.size by rw [List.size_toArray]; exact len32 hF.hb.len)
  clear hK hz1 hKF hn
  go_enter Tryd.func10, Tryd.ntmps10
  go_upto_region 1 with (fail)
  generalize (World.alloc _ _) = W1 at *
  have hf1 := BS_range HF1.out rfl (by decide)
  go_upto_region 2 with (first
    | (go_at_call 27; refine (extract_any _ hf1 hn1 (by decide) h0 HK1.out).mono ?_; rw [hF.hx]; rintro e w2 ⟨rfl, B2⟩)
    | (refine L_store32 rfl _ _ rfl rfl rfl (AB_zeros _ rfl) (by simp) hF.xl ?_; intro w3 hA3 hg3))
  have hs2 := B2.size
  have b3 : Below W1.heap.size W1 w3 := (B2.alloc hs2 _).grown hg3 (by simp; omega) (fun k hk => by cases hk; exact hs2)
  have hs3 := b3.size
  have hZa3 := hZa.bel b3 hZa.lt
  have hZb3 := hZb.bel b3 hZb.lt
  have hg1 := hZb.lt
  have hlt := hA3.lt
  have HK3 := Lib.hid (p := KT w3.drew) (show KT w3 from HK1.out.below b3 (Nat.le_refl _))
  have hr3 := hA3.range
  have hu32 := Tryd.underlying22
  have hs32 := hj32.out
  have hbw := hb.trans (b3.mono hb.size)
  obtain ⟨G, hG⟩ : ∃ G, w2.heap.size = G := ⟨_, rfl⟩
  rw [hG] at hr3 hlt ⊢
  have hG1 : w.heap.size + 1 < G := by omega
  clear hA3 hg3 hG
  refine wp_region_noPanic ?_
  refine wp_region_held_drew (S := fun w' => w'.rangeAt G 0 (x.map B)) (by kernel_rfl) hr3 (fun hHeld => ?_)
  refine wpAnyH_take (i := 0) rfl (by kernel_rfl) (by kernel_rfl) (by kernel_rfl) (fun _ _ _ h => h) (yieldsIf_load_mid (by rfl) _ _ rfl _ _ rfl _ _ (fun w h => h) hu32 rfl hs32) hHeld ?_
  try simp only [Act.put, List.getElem_toArray, List.getElem_cons_zero, List.setIfInBounds_toArray, List.set_cons_zero, List.set_cons_succ]
  refine wpAnyH_take (i := 2) rfl (by kernel_rfl) (by kernel_rfl) (by kernel_rfl) (fun _ _ _ h => h) (yieldsIf_load_mid (by rfl) _ _ rfl _ _ rfl _ _ (fun w h => h) hu32 rfl hs32) hHeld ?_
  try simp only [Act.put, List.getElem_toArray, List.getElem_cons_succ, List.getElem_cons_zero, List.setIfInBounds_toArray, List.set_cons_zero, List.set_cons_succ]
  refine wpAnyH_ready (rs := [1]) (by kernel_rfl) (by simp) (AllReadyH.cons rfl (fun K hK => ?_) AllReadyH.nil)
  go_simp
  go_at_call 28
  refine (lab_any _ hF.xl { data := #[99, 108, 105, 101, 110, 116, 32, 105, 110] } (by decide) hF.ha HK3.out).mono ?_
  rintro e w4 ⟨rfl, B4⟩
  have b4 : Below w3.heap.size w3 w4 := below_undrew B4
  have R4 := range_bel hr3 b4 hlt
  have HK4 := Lib.hid (show KT w4 from KT.below (w := w3) HK3.out b4 (Nat.le_refl _))
  refine hK.out _ _ R4 (fun hHeld => ?_)
  clear hK K
  try simp only [Act.put, List.getElem_toArray, List.getElem_cons_succ, List.getElem_cons_zero, List.setIfInBounds_toArray, List.set_cons_zero, List.set_cons_succ]
  refine wpAnyH_ready (rs := [3]) (by kernel_rfl) (by simp) (AllReadyH.cons rfl (fun K hK => ?_) AllReadyH.nil)
  go_simp
  go_at_call 28
  refine (lab_any _ hF.xl { data := #[115, 101, 114, 118, 101, 114, 32, 105, 110] } (by decide) hF.hb HK4.out).mono ?_
  rintro e w5 ⟨rfl, B5⟩
  have b5 := btrans b4 B5
  have R5 := range_bel hr3 b5 hlt
  have hZa5 := hZa3.bel b5 (by omega)
  have hZb5 := hZb3.bel b5 (by omega)
  have hs5 := b5.size
  have hb5 := hbw.trans (b5.mono hbw.size)
  refine hK.out _ _ R5 (fun hHeld => ?_)
  clear hK K
  try simp only [Act.put, List.getElem_toArray, List.getElem_cons_succ, List.getElem_cons_zero, List.setIfInBounds_toArray, List.set_cons_zero, List.set_cons_succ]
  refine wpAnyH_ready (rs := [4]) (by kernel_rfl) (by simp) (AllReadyH.cons rfl (fun K hK => ?_) AllReadyH.nil)
  refine S_storeA rfl _ _ _ rfl rfl rfl hZa5 i32 (by simp) hF.ha.len ?_
  intro w6 hA6 hg6
  have R6 : w6.rangeAt G 0 (x.map B) := fun j v hv => (World.cell?_of_block (a := ⟨G, 0 + j, none⟩) (hg6.block G (by omega) (by simp; omega))).trans (R5 j v hv)
  have hZb6 := hZb5.grown hg6 (by simp)
  have hs6 := hg6.size
  have hb6 := hb5.grown hg6 hb5.size (fun k hk => by cases hk; exact Nat.le_refl _)
  refine hK.out _ _ R6 (fun hHeld => ?_)
  clear hK K
  try simp only [Act.put, List.getElem_toArray, List.getElem_cons_succ, List.getElem_cons_zero]
  refine wpAnyH_ready (rs := [5]) (by kernel_rfl) (by simp) (AllReadyH.cons rfl (fun K hK => ?_) AllReadyH.nil)
  refine S_storeA rfl _ _ _ rfl rfl rfl hZb6 i32 (by simp) hF.hb.len ?_
  intro w7 hA7 hg7
  have R7 : w7.rangeAt G 0 (x.map B) := fun j v hv => (World.cell?_of_block (a := ⟨G, 0 + j, none⟩) (hg7.block G (by omega) (by simp; omega))).trans (R6 j v hv)
  have hA6' := hA6.grown hg7 (by simp)
  have hb7 := hb6.grown hg7 hb6.size (fun k hk => by cases hk; omega)
  refine hK.out _ _ R7 (fun hHeld => ?_)
  clear hK K
  refine wpAnyH_done (by kernel_rfl) ?_ _
  refine NoPanic.normal ?_
  try simp only [Act.put, List.getElem_toArray, List.getElem_cons_succ, List.getElem_cons_zero]
  go_wp2
  exact bodyPost_ret_by (results_rows2 rfl _ _ _ _ _ _ _ _ rfl rfl hA6' hA7 Tryd.underlying22 rfl hia.out hib.out) rfl ⟨rfl, hb7⟩
end Go.Proofs.YtlncnjcbgfeaoaaDoor
