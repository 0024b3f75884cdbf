/- texts CG E4 CH in one. -/
import Derived.Test.YtlncnjcbgfeaoaaDoorYag
import Derived.Test.YtlncnjcbgfeaoaaDoorYai
import Derived.Deep.QuietTactic
import Derived.BigQuiet

/- salt.mark: the tag of what is closed. -/
set_option maxRecDepth 100000
set_option linter.unusedVariables false
namespace Go.Proofs.YtlncnjcbgfeaoaaDoor
open Go.RowKit
/-- what is marked -/
def msgS (p beside : List UInt8) : List UInt8 := beside ++ List.replicate (padN beside.length) 0 ++ p ++ List.replicate (padN p.length) 0 ++ le8 beside.length ++ le8 p.length
def markS (key nonce p beside : List UInt8) : List UInt8 := tagS ((blkS key nonce 0).take 32) (msgS p beside)
structure MK (key nonce p beside d : List UInt8) : Prop where
  h : markS key nonce p beside = d
  len : d.length = 16
theorem MK_ex (key nonce p beside : List UInt8) : ∃ d, MK key nonce p beside d := ⟨_, rfl, tout_len _ _ _⟩
theorem le8_len (n : Nat) : (le8 n).length = 8 := by simp [le8]
theorem padN_lt (n : Nat) : padN n < 16 := by unfold padN; omega
theorem msgS_len (p beside : List UInt8) : (msgS p beside).length = beside.length + padN beside.length + p.length + padN p.length + 16 := by
  simp [msgS, le8_len]; omega
theorem rng_bel {n : Nat} {w w' : World} {b o : Nat} {cs : List Value} (h : w.rangeAt b o cs) (hb : Below n w w') (hg : b < n) : w'.rangeAt b o cs := fun j v hv =>
  (hb.cell (p := ⟨b, o + j, none⟩) hg).trans (h j v hv)
theorem run_arrAt {P : Program} {t e : TypeId} {k : Nat} (hu : P.underlying t = some (.array k e)) (a : Option Addr) (n c : Nat) (h : k ≤ n) (w : World) : (Instr.arrayAt t (.slice a n c)).run P w = .ok (.pointer a) w := by
  unfold Instr.arrayAt
  rw [Sem.run_bind, run_underlying hu]
  simp [Result.andThen, Nat.not_lt.2 h]
/-- the same store as a step of a region that draws its order -/
theorem S_storeAB {w : World} {ops : Array Oper} {o : Oper} {f : Act} {K : Act → World → Prop} {Q : Exit → Act → World → Prop} {E : Prop} (hgd : o.guard = none) (t : TypeId) (x y : Operand) (ho : o.op = .store t x y)
    {g n : Nat} {old d : List UInt8} (hx : f.eval x = .pointer (some ⟨g, 0, none⟩)) (hy : f.eval y = .agg (d.map B).toArray) (hA : AB w g t old) (hi : (Tryd.prog.info? t).map (·.size) = some n) (hl : old.length = n) (hl2 : d.length = n)
    (h : ∀ w', AB w' g t d → w.grownBy w' (some g) → K (f.put o.dst undef) w') : if Region.wanted o (yielded ops f.tmps) = true then Oper.wp Tryd.prog o f w K Q else E := by
  rw [if_pos (by simp [Region.wanted, hgd])]
  refine wp_store_row t x y ho g _ hx hy t _ hA (by rw [List.size_toArray, List.length_map, hl2]; exact hi) (by simp [hl, hl2]) (by rw [Array.all_eq_true_iff_forall_mem]; intro v hv; exact one_B _ v (by simpa using hv)) ?_
  exact h _ (setRow_heap _ _ _ _ _ _ hA) (grownBy_setRow w g _)
theorem PS_six {w : World} {a0 a1 a2 a3 a4 a5 : Option Addr} {n0 n1 n2 n3 n4 n5 c0 c1 c2 c3 c4 c5 : Nat} {p0 p1 p2 p3 p4 p5 : List UInt8} {g : Nat} (hg : g = w.heap.size)
    (h0 : BS w a0 n0 c0 p0) (h1 : BS w a1 n1 c1 p1) (h2 : BS w a2 n2 c2 p2) (h3 : BS w a3 n3 c3 p3) (h4 : BS w a4 n4 c4 p4) (h5 : BS w a5 n5 c5 p5) :
    PS (w.alloc (.cells #[.slice a0 n0 c0, .slice a1 n1 c1, .slice a2 n2 c2, .slice a3 n3 c3, .slice a4 n4 c4, .slice a5 n5 c5] 23)) (some ⟨g, 0, none⟩) 6 6 [p0, p1, p2, p3, p4, p5] := by
  subst hg
  refine ⟨[.slice a0 n0 c0, .slice a1 n1 c1, .slice a2 n2 c2, .slice a3 n3 c3, .slice a4 n4 c4, .slice a5 n5 c5], RS_new w _ #[.slice a0 n0 c0, .slice a1 n1 c1, .slice a2 n2 c2, .slice a3 n3 c3, .slice a4 n4 c4, .slice a5 n5 c5] 6 rfl (by omega) (by simp [Value.oneCell']), rfl, fun i q hi => ?_⟩
  have hk : i = 0 ∨ i = 1 ∨ i = 2 ∨ i = 3 ∨ i = 4 ∨ i = 5 := by have := (List.getElem?_eq_some_iff.1 hi).1; simp at this; omega
  rcases hk with rfl | rfl | rfl | rfl | rfl | rfl <;> cases hi
  · exact ⟨a0, n0, c0, rfl, RS.alloc h0 _⟩
  · exact ⟨a1, n1, c1, rfl, RS.alloc h1 _⟩
  · exact ⟨a2, n2, c2, rfl, RS.alloc h2 _⟩
  · exact ⟨a3, n3, c3, rfl, RS.alloc h3 _⟩
  · exact ⟨a4, n4, c4, rfl, RS.alloc h4 _⟩
  · exact ⟨a5, n5, c5, rfl, RS.alloc h5 _⟩
set_option maxHeartbeats 4000000 in
theorem mark_any (w : World) {a b : Option Addr} {n c m e : Nat} {key nonce p bs d : List UInt8} (hkl : key.length = 32) (hnl : nonce.length = 12) (hp : BS w a n c p) (hb : BS w b m e bs) (hn : n + m ≤ 549755813888) (hD : MK key nonce p bs d) :
    Calls Tryd.prog 54 #[.agg (key.map B).toArray, .agg (nonce.map B).toArray, .slice a n c, .slice b m e] w fun x w' => x = .returned (.agg (d.map B).toArray) ∧ Below w.heap.size w w' := by
  have hz1 : (w.alloc (.cells (key.map B).toArray 22)).heap.size = w.heap.size + 1 := by simp
  have hz2 : ((w.alloc (.cells (key.map B).toArray 22)).alloc (.cells (nonce.map B).toArray 31)).heap.size = w.heap.size + 1 + 1 := by simp
  have hA := ((AB_box w 22 key).al (.cells (nonce.map B).toArray 31)).al (.cells (z16.map B).toArray 92)
  have hM := (AB_box (w.alloc (.cells (key.map B).toArray 22)) 31 nonce).al (.cells (z16.map B).toArray 92)
  have hO := AB_box ((w.alloc (.cells (key.map B).toArray 22)).alloc (.cells (nonce.map B).toArray 31)) 92 z16
  have hbl := ((below_alloc w (.cells (key.map B).toArray 22)).alloc (by simp) (.cells (nonce.map B).toArray 31)).alloc (by simp; omega) (.cells (z16.map B).toArray 92)
  rw [hz1] at hM
  rw [hz2] at hO
  rw [show (z16.map B).toArray = #[.int .u8 0, .int .u8 0, .int .u8 0, .int .u8 0, .int .u8 0, .int .u8 0, .int .u8 0, .int .u8 0, .int .u8 0, .int .u8 0, .int .u8 0, .int .u8 0, .int .u8 0, .int .u8 0, .int .u8 0, .int .u8 0] from rfl] at hA hM hO hbl
  have hpl := BS.len hp
  have hql := BS.len hb
  have hi32 := Lib.hid (show (Tryd.prog.info? 22).map (·.size) = some (key.map B).length by rw [List.length_map, hkl]; kernel_rfl)
  have hi12 := Lib.hid (show (Tryd.prog.info? 31).map (·.size) = some (nonce.map B).length by rw [List.length_map, hnl]; kernel_rfl)
  obtain ⟨bk, hbk⟩ := ST_ex key nonce 0
  have hbkl := hbk.len
  have hres := hD.h
  unfold markS at hres
  rw [show blkS key nonce 0 = bk from hbk.h] at hres
  have Hres := EB.mk hres
  clear hz1 hz2 hres
  go_enter Tryd.func54, Tryd.ntmps54
  go_upto_region 1 with (fail)
  generalize (World.alloc _ _) = W1 at *
  have l0 := hA.lt
  have l1 := hM.lt
  have l2 := hO.lt
  have rA := hA.rng
  have rM := hM.rng
  have hbs := hbl.size
  have Hst := Lib.hid (stir_any W1 hkl hnl 0 (by decide) hbk)
  have HO := Lib.hid hO
  have HB := Lib.hid hbl
  clear hA hM hO hbl hbk
  go_upto_region 2 with (first
    | (refine wpList_load_mid rfl _ _ rfl _ _ rfl (key.map B) _ rA Tryd.underlying22 rfl hi32.out ?_)
    | (refine wpList_load_mid rfl _ _ rfl _ _ rfl (nonce.map B) _ rM Tryd.underlying31 rfl hi12.out ?_)
    | (go_at_call 73; refine Hst.out.mono ?_; rintro x w2 ⟨rfl, B2⟩)
    | (refine L_storeAB rfl _ _ _ rfl rfl rfl (show AB (w2.alloc _) w2.heap.size 117 (List.replicate 64 0) from heap_alloc_new w2 _) i64B (by simp) hbkl ?_; intro w3 hb3 hg3))
  have z2 := B2.size
  have b3 : Below W1.heap.size W1 w3 := (B2.alloc z2 _).grown hg3 (by simp; omega) (fun k hk => by cases hk; exact z2)
  have hO3 := HO.out.bl b3 l2
  have hbl3 := HB.out.trans (b3.mono hbs)
  obtain ⟨gb, hgb⟩ : ∃ gb, w2.heap.size = gb := ⟨_, rfl⟩
  rw [hgb] at hb3 ⊢
  have lgb : w.heap.size + 1 + 1 < gb := by omega
  have lb3 := hb3.lt
  have h64 := hb3.whole (n := 64) hbkl (by omega)
  have h32 := runB_take h64 32 (by omega)
  have r32 : w3.rangeAt gb 0 ((bk.take 32).map B) := fun j v hv => by
    have := hb3.rng j v (by
      rw [List.getElem?_map, List.getElem?_take] at hv
      rw [List.getElem?_map]
      split at hv
      · exact hv
      · cases hv)
    exact this
  have hi32b := Lib.hid (show (Tryd.prog.info? 22).map (·.size) = some ((bk.take 32).map B).length by rw [List.length_map, List.length_take, hbkl]; kernel_rfl)
  obtain ⟨K32, hK32⟩ : ∃ K32, bk.take 32 = K32 := ⟨_, rfl⟩
  have hk32l : K32.length = 32 := by rw [← hK32, List.length_take, hbkl]; rfl
  have Hr2 : EB (tagS K32 (msgS p bs)) d := ⟨by rw [← hK32]; exact Hres.h⟩
  rw [hK32] at r32 hi32b
  have HO3 := Lib.hid hO3
  have HB3 := Lib.hid hbl3
  have R32 := Lib.hid (show w3.drew.rangeAt gb 0 (K32.map B) from r32)
  clear hgb hO3 hbl3 hb3 hg3 h64 h32 b3 B2 hK32 r32 Hst HO HB rA rM Hres
  have hu32 := Tryd.underlying22
  have hs32 := hi32b.out
  have hp2 : ∀ w', (Instr.arrayAt 22 (.slice (some ⟨gb, 0, none⟩) 32 64)).run Tryd.prog w' = .ok (.pointer (some ⟨gb, 0, none⟩)) w' := run_arrAt hu32 _ 32 64 (by decide)
  refine wp_region_noPanic ?_
  refine wp_region_held_drew (S := fun w' => w'.rangeAt gb 0 (K32.map B)) (by kernel_rfl) R32.out (fun hHeld => ?_)
  refine wpAnyH_take (i := 0) (v := .slice (some ⟨gb, 0, none⟩) 32 64) rfl (by kernel_rfl) (by kernel_rfl) (by kernel_rfl) (fun _ _ _ h => h) (Or.inl ⟨by rfl, fun w h => by go_simp⟩) hHeld ?_
  try simp only [Act.put, List.getElem_toArray, List.getElem_cons_zero, List.setIfInBounds_toArray, List.set_cons_zero, List.set_cons_succ]
  refine wpAnyH_take (i := 1) (v := .pointer (some ⟨gb, 0, none⟩)) rfl (by kernel_rfl) (by kernel_rfl) (by kernel_rfl) (fun _ _ _ h => h) (Or.inl ⟨by rfl, fun w h => by go_simp⟩) hHeld ?_
  try simp only [Act.put, List.getElem_toArray, List.getElem_cons_succ, List.getElem_cons_zero, List.setIfInBounds_toArray, List.set_cons_zero, List.set_cons_succ]
  refine wpAnyH_take (i := 2) rfl (by kernel_rfl) (by kernel_rfl) (by kernel_rfl) (fun _ _ _ h => h) (yieldsIf_load_mid (by rfl) _ _ rfl _ _ rfl _ _ (fun w h => h) hu32 rfl hs32) hHeld ?_
  try simp only [Act.put, List.getElem_toArray, List.getElem_cons_succ, List.getElem_cons_zero, List.setIfInBounds_toArray, List.set_cons_zero, List.set_cons_succ]
  refine wpAnyH_take (i := 3) (v := .slice b m e) rfl (by kernel_rfl) (by kernel_rfl) (by kernel_rfl) (fun _ _ _ h => h) (Or.inl ⟨by rfl, fun w h => by go_simp⟩) hHeld ?_
  try simp only [Act.put, List.getElem_toArray, List.getElem_cons_succ, List.getElem_cons_zero, List.setIfInBounds_toArray, List.set_cons_zero, List.set_cons_succ]
  refine wpAnyH_take (i := 4) (v := .slice b m e) rfl (by kernel_rfl) (by kernel_rfl) (by kernel_rfl) (fun _ _ _ h => h) (Or.inl ⟨by rfl, fun w h => by go_simp⟩) hHeld ?_
  try simp only [Act.put, List.getElem_toArray, List.getElem_cons_succ, List.getElem_cons_zero, List.setIfInBounds_toArray, List.set_cons_zero, List.set_cons_succ]
  refine wpAnyH_take (i := 6) (v := .slice a n c) rfl (by kernel_rfl) (by kernel_rfl) (by kernel_rfl) (fun _ _ _ h => h) (Or.inl ⟨by rfl, fun w h => by go_simp⟩) hHeld ?_
  try simp only [Act.put, List.getElem_toArray, List.getElem_cons_succ, List.getElem_cons_zero, List.setIfInBounds_toArray, List.set_cons_zero, List.set_cons_succ]
  refine wpAnyH_take (i := 7) (v := .slice a n c) rfl (by kernel_rfl) (by kernel_rfl) (by kernel_rfl) (fun _ _ _ h => h) (Or.inl ⟨by rfl, fun w h => by go_simp⟩) hHeld ?_
  try simp only [Act.put, List.getElem_toArray, List.getElem_cons_succ, List.getElem_cons_zero, List.setIfInBounds_toArray, List.set_cons_zero, List.set_cons_succ]
  refine wpAnyH_take (i := 9) (v := .slice b m e) rfl (by kernel_rfl) (by kernel_rfl) (by kernel_rfl) (fun _ _ _ h => h) (Or.inl ⟨by rfl, fun w h => by go_simp⟩) hHeld ?_
  try simp only [Act.put, List.getElem_toArray, List.getElem_cons_succ, List.getElem_cons_zero, List.setIfInBounds_toArray, List.set_cons_zero, List.set_cons_succ]
  refine wpAnyH_take (i := 10) (v := .int .i64 (m : Int)) rfl (by kernel_rfl) (by kernel_rfl) (by kernel_rfl) (fun _ _ _ h => h) (Or.inl ⟨by rfl, fun w h => by go_simp⟩) hHeld ?_
  try simp only [Act.put, List.getElem_toArray, List.getElem_cons_succ, List.getElem_cons_zero, List.setIfInBounds_toArray, List.set_cons_zero, List.set_cons_succ]
  refine wpAnyH_take (i := 12) (v := .slice a n c) rfl (by kernel_rfl) (by kernel_rfl) (by kernel_rfl) (fun _ _ _ h => h) (Or.inl ⟨by rfl, fun w h => by go_simp⟩) hHeld ?_
  try simp only [Act.put, List.getElem_toArray, List.getElem_cons_succ, List.getElem_cons_zero, List.setIfInBounds_toArray, List.set_cons_zero, List.set_cons_succ]
  refine wpAnyH_take (i := 13) (v := .int .i64 (n : Int)) rfl (by kernel_rfl) (by kernel_rfl) (by kernel_rfl) (fun _ _ _ h => h) (Or.inl ⟨by rfl, fun w h => by go_simp⟩) hHeld ?_
  try simp only [Act.put, List.getElem_toArray, List.getElem_cons_succ, List.getElem_cons_zero, List.setIfInBounds_toArray, List.set_cons_zero, List.set_cons_succ]
  refine wpAnyH_ready (rs := [5]) (by kernel_rfl) (by simp) (AllReadyH.cons rfl (fun K hK => ?_) AllReadyH.nil)
  go_simp
  go_at_call 75
  refine (padded_any _ _ m e (by omega)).mono ?_
  rintro x w4 ⟨a4, c4, rfl, o4, B4⟩
  have b4 : Below w3.drew.heap.size w3.drew w4 := B4
  refine hK.out _ _ (rng_bel R32.out b4 lb3) (fun hHeld => ?_)
  clear hK K
  try simp only [Act.put, List.getElem_toArray, List.getElem_cons_succ, List.getElem_cons_zero, List.setIfInBounds_toArray, List.set_cons_zero, List.set_cons_succ]
  refine wpAnyH_ready (rs := [8]) (by kernel_rfl) (by simp) (AllReadyH.cons rfl (fun K hK => ?_) AllReadyH.nil)
  go_simp
  go_at_call 75
  refine (padded_any _ _ n c (by omega)).mono ?_
  rintro x w5 ⟨a5, c5, rfl, o5, B5⟩
  have b5 := btr b4 B5
  have h45 := RS.below o4.rs B5 (Nat.le_refl _)
  refine hK.out _ _ (rng_bel R32.out b5 lb3) (fun hHeld => ?_)
  clear hK K
  try simp only [Act.put, List.getElem_toArray, List.getElem_cons_succ, List.getElem_cons_zero, List.setIfInBounds_toArray, List.set_cons_zero, List.set_cons_succ]
  refine wpAnyH_ready (rs := [11]) (by kernel_rfl) (by simp) (AllReadyH.cons rfl (fun K hK => ?_) AllReadyH.nil)
  go_simp
  go_at_call 76
  refine (eight_any _ m (by omega)).mono ?_
  rintro x w6 ⟨a6, rfl, o6, B6⟩
  have b6 := btr b5 B6
  have h46 := RS.below h45 B6 (Nat.le_refl _)
  have h56 := RS.below o5.rs B6 (Nat.le_refl _)
  refine hK.out _ _ (rng_bel R32.out b6 lb3) (fun hHeld => ?_)
  clear hK K
  try simp only [Act.put, List.getElem_toArray, List.getElem_cons_succ, List.getElem_cons_zero, List.setIfInBounds_toArray, List.set_cons_zero, List.set_cons_succ]
  refine wpAnyH_ready (rs := [14]) (by kernel_rfl) (by simp) (AllReadyH.cons rfl (fun K hK => ?_) AllReadyH.nil)
  go_simp
  go_at_call 76
  refine (eight_any _ n (by omega)).mono ?_
  rintro x w7 ⟨a7, rfl, o7, B7⟩
  have b7 := btr b6 B7
  have h47 := RS.below h46 B7 (Nat.le_refl _)
  have h57 := RS.below h56 B7 (Nat.le_refl _)
  have h67 := RS.below o6.rs B7 (Nat.le_refl _)
  have hb37 : Below w.heap.size w w7 := (show Below w.heap.size w w3.drew from HB3.out.drew).trans (b7.mono HB3.out.size)
  have hp7 := RS.below hp hb37 (Nat.le_refl _)
  have hq7 := RS.below hb hb37 (Nat.le_refl _)
  refine hK.out _ _ (rng_bel R32.out b7 lb3) (fun hHeld => ?_)
  clear hK K
  try simp only [Act.put, List.getElem_toArray, List.getElem_cons_succ, List.getElem_cons_zero, List.setIfInBounds_toArray, List.set_cons_zero, List.set_cons_succ]
  refine wpAnyH_ready (rs := [15]) (by kernel_rfl) (by simp) (AllReadyH.cons rfl (fun K hK => ?_) AllReadyH.nil)
  go_simp
  have hps := PS_six (g := w7.heap.size) rfl hq7 h47 hp7 h57 h67 o7.rs
  have b8 := b7.alloc b7.size (.cells #[.slice b m e, .slice a4 (padN m) c4, .slice a n c, .slice a5 (padN n) c5, .slice a6 8 8, .slice a7 8 8] 23)
  refine hK.out _ _ (rng_bel R32.out b8 lb3) (fun hHeld => ?_)
  clear hK K
  try simp only [Act.put, List.getElem_toArray, List.getElem_cons_succ, List.getElem_cons_zero, List.setIfInBounds_toArray, List.set_cons_zero, List.set_cons_succ]
  generalize (World.alloc _ _) = w8 at *
  have hfl : [bs, List.replicate (padN m) 0, p, List.replicate (padN n) 0, le8 m, le8 n].flatten = msgS p bs := by
    unfold msgS; rw [hpl, hql]; simp
  have hml := msgS_len p bs
  have hp1 := padN_lt p.length
  have hp2' := padN_lt bs.length
  have hjn := join_any w8 _ hps (by rw [hfl, hml]; omega)
  rw [hfl] at hjn
  have htg : TG K32 (msgS p bs) d := ⟨Hr2.h, hD.len⟩
  obtain ⟨M, hM⟩ : ∃ M, msgS p bs = M := ⟨_, rfl⟩
  rw [hM] at hjn htg hml
  have Htg := Lib.hid htg
  have Hjn := Lib.hid hjn
  have hml2 : M.length ≤ 1099511627776 := by omega
  clear hml hjn hps hfl hM htg h47 h57 h67 h46 h56 h45 o4 o5 o6 o7 B4 B5 B6 B7 hp7 hq7
  refine wpAnyH_ready (rs := [16]) (by kernel_rfl) (by simp) (AllReadyH.cons rfl (fun K hK => ?_) AllReadyH.nil)
  go_simp
  go_at_call 62
  refine Hjn.out.mono ?_
  rintro x w9 ⟨a9, c9, rfl, o9, B9⟩
  have b9 := btr b8 B9
  refine hK.out _ _ (rng_bel R32.out b9 lb3) (fun hHeld => ?_)
  clear hK K
  try simp only [Act.put, List.getElem_toArray, List.getElem_cons_succ, List.getElem_cons_zero, List.setIfInBounds_toArray, List.set_cons_zero, List.set_cons_succ]
  refine wpAnyH_ready (rs := [17]) (by kernel_rfl) (by simp) (AllReadyH.cons rfl (fun K hK => ?_) AllReadyH.nil)
  go_simp
  go_at_call 74
  refine (tag_any _ hk32l o9.rs hml2 Htg.out).mono ?_
  rintro x w10 ⟨rfl, B10⟩
  have b10 := btr b9 B10
  have hO10 : AB w10 (w.heap.size + 1 + 1) 92 z16 := (show AB w3.drew _ _ _ from HO3.out).bl b10 (by show _ < w3.heap.size; omega)
  have hbl10 : Below w.heap.size w w10 := (show Below w.heap.size w w3.drew from HB3.out.drew).trans (b10.mono HB3.out.size)
  have hdl := hD.len
  refine hK.out _ _ (rng_bel R32.out b10 lb3) (fun hHeld => ?_)
  clear hK K
  try simp only [Act.put, List.getElem_toArray, List.getElem_cons_succ, List.getElem_cons_zero, List.setIfInBounds_toArray, List.set_cons_zero, List.set_cons_succ]
  refine wpAnyH_ready (rs := [18]) (by kernel_rfl) (by simp) (AllReadyH.cons rfl (fun K hK => ?_) AllReadyH.nil)
  refine S_storeAB rfl _ _ _ rfl rfl rfl hO10 i16 (by simp [z16]) hdl ?_
  intro w11 hO11 hg11
  have hbl11 := hbl10.grown hg11 hbl10.size (fun k hk => by cases hk; omega)
  have h16 : (Tryd.prog.info? 92).map (·.size) = some (d.map B).length := by rw [List.length_map, hdl]; exact i16
  have hi2 := Lib.hid (show (Tryd.prog.info? 92).map (·.size) = some (d.map B).toArray.size by rw [List.size_toArray]; exact h16)
  clear h16
  refine hK.out _ _ (fun j v hv => (World.cell?_of_block (a := ⟨gb, 0 + j, none⟩) (hg11.block gb (Nat.lt_of_lt_of_le lb3 b10.size) (by simp; omega))).trans (rng_bel R32.out b10 lb3 j v hv)) (fun hHeld => ?_)
  clear hK K
  refine wpAnyH_done (by kernel_rfl) ?_ _
  refine NoPanic.normal ?_
  try simp only [Act.put, List.getElem_toArray, List.getElem_cons_succ, List.getElem_cons_zero]
  go_wp2
  exact bodyPost_ret_by (results_cell_row rfl _ _ _ _ _ _ _ rfl hO11 Tryd.underlying92 rfl hi2.out) rfl ⟨rfl, hbl11⟩
end Go.Proofs.YtlncnjcbgfeaoaaDoor

/- salt.Mask. -/
set_option maxRecDepth 100000
set_option linter.unusedVariables false
namespace Go.Proofs.YtlncnjcbgfeaoaaDoor
open Go.RowKit
theorem rng_drop {w : World} {b o : Nat} {xs : List UInt8} (h : w.rangeAt b o (xs.map B)) (k : Nat) : w.rangeAt b (o + k) ((xs.drop k).map B) := fun j v hv => by
  rw [List.map_drop, List.getElem?_drop] at hv
  have := h (k + j) v hv
  rwa [← Nat.add_assoc] at this
theorem rng_take {w : World} {b o : Nat} {xs : List UInt8} (h : w.rangeAt b o (xs.map B)) (k : Nat) : w.rangeAt b o ((xs.take k).map B) := fun j v hv => by
  rw [List.map_take, List.getElem?_take] at hv
  split at hv
  · exact h j v hv
  · cases hv
def z5 : List UInt8 := List.replicate 5 0
theorem i5 : (Tryd.prog.info? 84).map (·.size) = some 5 := by kernel_rfl
theorem low4_at (w : World) {a : Option Addr} {n c : Nat} {xs : List UInt8} (hx : BS w a n c xs) (hn : 4 ≤ n) :
    Calls Tryd.prog 82 #[.slice a n c] w fun e w' => e = .returned (.int .u32 ((le4 xs : Nat) : Int)) ∧ ∃ m, w' = w.drewN m := by
  have hl := BS.len hx
  obtain ⟨x0, x1, x2, x3, r, rfl⟩ : ∃ x0 x1 x2 x3 r, xs = x0 :: x1 :: x2 :: x3 :: r := by
    rcases xs with _ | ⟨x0, _ | ⟨x1, _ | ⟨x2, _ | ⟨x3, r⟩⟩⟩⟩
    all_goals first | exact ⟨_, _, _, _, _, rfl⟩ | (simp at hl; omega)
  exact low4_any w hx x0 x1 x2 x3 r rfl
structure SMF (W1 w4 : World) (gt : Nat) (d : List UInt8) : Prop where
  ab : AB w4 gt 117 d
  bl : Below W1.heap.size W1.drew w4
  le : W1.heap.size ≤ gt
set_option maxHeartbeats 4000000 in
theorem mask_any (w : World) {key sample m : List UInt8} (hkl : key.length = 32) (hsl : sample.length = 16) (hD : MSK key sample m) :
    Calls Tryd.prog 65 #[.agg (key.map B).toArray, .agg (sample.map B).toArray] w fun x w' => x = .returned (.agg (m.map B).toArray) ∧ Below w.heap.size w w' := by
  have hml := hD.len
  obtain ⟨d, hd⟩ := ST_ex key (sample.drop 4) (le4 sample)
  have hmd : d.take 5 = m := by have := (MSK.of hd).h; rw [hD.h] at this; exact this.symm
  obtain ⟨s4, hs4⟩ : ∃ s4, sample.drop 4 = s4 := ⟨_, rfl⟩
  have hs4l : s4.length = 12 := by rw [← hs4, List.length_drop]; omega
  rw [hs4] at hd
  have hdl := hd.len
  have hle := le4_lt sample
  have hz1 : (w.alloc (.cells (key.map B).toArray 22)).heap.size = w.heap.size + 1 := by simp
  have hz2 : ((w.alloc (.cells (key.map B).toArray 22)).alloc (.cells (sample.map B).toArray 92)).heap.size = w.heap.size + 1 + 1 := by simp
  have hA := ((AB_box w 22 key).al (.cells (sample.map B).toArray 92)).al (.cells #[.int .u8 0, .int .u8 0, .int .u8 0, .int .u8 0, .int .u8 0] 84)
  have hM := (AB_box (w.alloc (.cells (key.map B).toArray 22)) 92 sample).al (.cells #[.int .u8 0, .int .u8 0, .int .u8 0, .int .u8 0, .int .u8 0] 84)
  have hO : AB (((w.alloc (.cells (key.map B).toArray 22)).alloc (.cells (sample.map B).toArray 92)).alloc (.cells #[.int .u8 0, .int .u8 0, .int .u8 0, .int .u8 0, .int .u8 0] 84)) ((w.alloc (.cells (key.map B).toArray 22)).alloc (.cells (sample.map B).toArray 92)).heap.size 84 z5 := heap_alloc_new _ _
  have hbl : Below w.heap.size w _ := ((below_alloc w (.cells (key.map B).toArray 22)).alloc (by simp) (.cells (sample.map B).toArray 92)).alloc (by simp; omega) (.cells #[.int .u8 0, .int .u8 0, .int .u8 0, .int .u8 0, .int .u8 0] 84)
  rw [hz1] at hM
  rw [hz2] at hO
  have hs32 : (Tryd.prog.info? 22).map (·.size) = some (key.map B).length := by rw [List.length_map, hkl]; kernel_rfl
  have hs12 : (Tryd.prog.info? 31).map (·.size) = some (s4.map B).length := by rw [List.length_map, hs4l]; kernel_rfl
  clear hz1 hz2
  go_enter Tryd.func65, Tryd.ntmps65
  go_upto_region 1 with (fail)
  generalize (World.alloc _ _) = W1 at *
  have l0 := hA.lt
  have l1 := hM.lt
  have l2 := hO.lt
  have hbs := hbl.size
  have rA : W1.drew.rangeAt w.heap.size 0 (key.map B) := hA.rng
  have rM : W1.drew.rangeAt (w.heap.size + 1) 4 (s4.map B) := by have h : W1.drew.rangeAt (w.heap.size + 1) 0 (sample.map B) := hM.rng; have h2 := rng_drop h 4; rw [hs4] at h2; exact h2
  have hbM : BS W1 (some ⟨w.heap.size + 1, 0, none⟩) 16 16 sample := hM.whole hsl (by decide)
  have Hlow := Lib.hid (fun (w' : World) (h : BS w' (some ⟨w.heap.size + 1, 0, none⟩) 16 16 sample) => low4_at w' h (by decide))
  have Hst := Lib.hid (fun (w' : World) => stir_any w' hkl hs4l (le4 sample) hle hd)
  obtain ⟨q, hq⟩ : ∃ q, le4 sample = q := ⟨_, rfl⟩
  rw [hq] at Hlow Hst
  have HBM := Lib.hid (RS.drew hbM)
  have HO := Lib.hid hO
  have HB := Lib.hid hbl
  have hu32 := Tryd.underlying22
  have hu12 := Tryd.underlying31
  have p2 : ∀ w', (Instr.arrayAt 31 (.slice (some ⟨w.heap.size + 1, 4, none⟩) 12 12)).run Tryd.prog w' = .ok (.pointer (some ⟨w.heap.size + 1, 4, none⟩)) w' := run_arrAt hu12 _ 12 12 (by decide)
  have sl4 : ∀ w', (Instr.sliceAt 92 (.pointer (some ⟨w.heap.size + 1, 0, none⟩)) (some (.int .i64 4)) none none).run Tryd.prog w' = .ok (.slice (some ⟨w.heap.size + 1, 4, none⟩) 12 12) w' := by
    exact fun w' => run_sliceFrom Tryd.underlying92 (by kernel_rfl) (by kernel_rfl) szB (w.heap.size + 1) 4 (by decide) w'
  clear hA hM hO hbl hbM hd hD hq hle hsl hs4
  have Hr := Lib.hid hmd
  clear hmd
  refine wp_region_held_drew (S := fun w' => w'.rangeAt w.heap.size 0 (key.map B) ∧ w'.rangeAt (w.heap.size + 1) 4 (s4.map B)) (by kernel_rfl) ⟨rA, rM⟩ (fun hHeld => ?_)
  refine wpAnyH_take (i := 0) rfl (by kernel_rfl) (by kernel_rfl) (by kernel_rfl) (fun _ _ _ h => h) (yieldsIf_load_mid (by rfl) _ _ rfl _ _ rfl _ _ (fun w h => h.1) hu32 rfl hs32) hHeld ?_
  try simp only [Act.put, List.getElem_toArray, List.getElem_cons_zero, List.setIfInBounds_toArray, List.set_cons_zero, List.set_cons_succ]
  refine wpAnyH_take (i := 1) (v := .slice (some ⟨w.heap.size + 1, 4, none⟩) 12 12) rfl (by kernel_rfl) (by kernel_rfl) (by kernel_rfl) (fun _ _ _ h => h) (Or.inl ⟨by rfl, fun w h => by go_simp⟩) hHeld ?_
  try simp only [Act.put, List.getElem_toArray, List.getElem_cons_succ, List.getElem_cons_zero, List.setIfInBounds_toArray, List.set_cons_zero, List.set_cons_succ]
  refine wpAnyH_take (i := 2) (v := .pointer (some ⟨w.heap.size + 1, 4, none⟩)) rfl (by kernel_rfl) (by kernel_rfl) (by kernel_rfl) (fun _ _ _ h => h) (Or.inl ⟨by rfl, fun w h => by go_simp⟩) hHeld ?_
  try simp only [Act.put, List.getElem_toArray, List.getElem_cons_succ, List.getElem_cons_zero, List.setIfInBounds_toArray, List.set_cons_zero, List.set_cons_succ]
  refine wpAnyH_take (i := 3) rfl (by kernel_rfl) (by kernel_rfl) (by kernel_rfl) (fun _ _ _ h => h) (yieldsIf_load_mid (by rfl) _ _ rfl _ _ rfl _ _ (fun w h => h.2) hu12 rfl hs12) hHeld ?_
  try simp only [Act.put, List.getElem_toArray, List.getElem_cons_succ, List.getElem_cons_zero, List.setIfInBounds_toArray, List.set_cons_zero, List.set_cons_succ]
  refine wpAnyH_take (i := 4) (v := .slice (some ⟨w.heap.size + 1, 0, none⟩) 16 16) rfl (by kernel_rfl) (by kernel_rfl) (by kernel_rfl) (fun _ _ _ h => h) (Or.inl ⟨by rfl, fun w h => by go_simp⟩) hHeld ?_
  try simp only [Act.put, List.getElem_toArray, List.getElem_cons_succ, List.getElem_cons_zero, List.setIfInBounds_toArray, List.set_cons_zero, List.set_cons_succ]
  refine (fun (hk : Hid (∀ (w4 : World) (gt : Nat), SMF W1 w4 gt d → (?P1 : World → Nat → Prop) w4 gt)) => ?main1) (Lib.hid ?rest1)
  case main1 =>
    refine wpAnyH_ready (rs := [5, 7]) (by kernel_rfl) (by simp) (AllReadyH.cons rfl (fun K hK => ?o1) (AllReadyH.cons rfl (fun K hK => ?o2) AllReadyH.nil))
    case o1 =>
      go_simp
      go_at_call 82
      refine (Hlow.out _ HBM.out).mono ?_
      rintro x w2 ⟨rfl, m2, rfl⟩
      have B2 : Below W1.heap.size W1.drew (W1.drew.drewN m2) := below_drewN (Below.refl _ _) m2
      refine hK.out _ _ ⟨rng_bel rA B2 l0, rng_bel rM B2 l1⟩ (fun hHeld => ?_)
      clear hK K
      try simp only [Act.put, List.getElem_toArray, List.getElem_cons_succ, List.getElem_cons_zero, List.setIfInBounds_toArray, List.set_cons_zero, List.set_cons_succ]
      generalize (World.drewN _ _) = w2 at *
      refine wpAnyH_ready (rs := [6, 7]) (by kernel_rfl) (by simp) (AllReadyH.cons rfl (fun K hK => ?oa) (AllReadyH.cons rfl (fun K hK => ?ob) AllReadyH.nil))
      case oa =>
        go_simp
        go_at_call 73
        refine (Hst.out _).mono ?_
        rintro x w3 ⟨rfl, B3⟩
        have b3 := btr (w := W1.drew) B2 B3
        refine hK.out _ _ ⟨rng_bel rA b3 l0, rng_bel rM b3 l1⟩ (fun hHeld => ?_)
        clear hK K
        try simp only [Act.put, List.getElem_toArray, List.getElem_cons_succ, List.getElem_cons_zero, List.setIfInBounds_toArray, List.set_cons_zero, List.set_cons_succ]
        refine wpAnyH_ready (rs := [7]) (by kernel_rfl) (by simp) (AllReadyH.cons rfl (fun K hK => ?_) AllReadyH.nil)
        go_simp
        have b4 := b3.alloc b3.size (.cells #[.int .u8 0, .int .u8 0, .int .u8 0, .int .u8 0, .int .u8 0, .int .u8 0, .int .u8 0, .int .u8 0, .int .u8 0, .int .u8 0, .int .u8 0, .int .u8 0, .int .u8 0, .int .u8 0, .int .u8 0, .int .u8 0, .int .u8 0, .int .u8 0, .int .u8 0, .int .u8 0, .int .u8 0, .int .u8 0, .int .u8 0, .int .u8 0, .int .u8 0, .int .u8 0, .int .u8 0, .int .u8 0, .int .u8 0, .int .u8 0, .int .u8 0, .int .u8 0, .int .u8 0, .int .u8 0, .int .u8 0, .int .u8 0, .int .u8 0, .int .u8 0, .int .u8 0, .int .u8 0, .int .u8 0, .int .u8 0, .int .u8 0, .int .u8 0, .int .u8 0, .int .u8 0, .int .u8 0, .int .u8 0, .int .u8 0, .int .u8 0, .int .u8 0, .int .u8 0, .int .u8 0, .int .u8 0, .int .u8 0, .int .u8 0, .int .u8 0, .int .u8 0, .int .u8 0, .int .u8 0, .int .u8 0, .int .u8 0, .int .u8 0, .int .u8 0] 117)
        have hz : AB (w3.alloc (.cells #[.int .u8 0, .int .u8 0, .int .u8 0, .int .u8 0, .int .u8 0, .int .u8 0, .int .u8 0, .int .u8 0, .int .u8 0, .int .u8 0, .int .u8 0, .int .u8 0, .int .u8 0, .int .u8 0, .int .u8 0, .int .u8 0, .int .u8 0, .int .u8 0, .int .u8 0, .int .u8 0, .int .u8 0, .int .u8 0, .int .u8 0, .int .u8 0, .int .u8 0, .int .u8 0, .int .u8 0, .int .u8 0, .int .u8 0, .int .u8 0, .int .u8 0, .int .u8 0, .int .u8 0, .int .u8 0, .int .u8 0, .int .u8 0, .int .u8 0, .int .u8 0, .int .u8 0, .int .u8 0, .int .u8 0, .int .u8 0, .int .u8 0, .int .u8 0, .int .u8 0, .int .u8 0, .int .u8 0, .int .u8 0, .int .u8 0, .int .u8 0, .int .u8 0, .int .u8 0, .int .u8 0, .int .u8 0, .int .u8 0, .int .u8 0, .int .u8 0, .int .u8 0, .int .u8 0, .int .u8 0, .int .u8 0, .int .u8 0, .int .u8 0, .int .u8 0] 117)) w3.heap.size 117 (List.replicate 64 0) := heap_alloc_new w3 _
        refine hK.out _ _ ⟨rng_bel rA b4 l0, rng_bel rM b4 l1⟩ (fun hHeld => ?_)
        clear hK K
        try simp only [Act.put, List.getElem_toArray, List.getElem_cons_succ, List.getElem_cons_zero, List.setIfInBounds_toArray, List.set_cons_zero, List.set_cons_succ]
        generalize (World.alloc _ _) = w4 at *
        refine wpAnyH_ready (rs := [8]) (by kernel_rfl) (by simp) (AllReadyH.cons rfl (fun K hK => ?_) AllReadyH.nil)
        refine S_storeAB rfl _ _ _ rfl rfl rfl hz i64B (by simp) hdl ?_
        intro w5 hT5 hg5
        have z3 : W1.heap.size ≤ w3.heap.size := b3.size
        have b5 := b4.grown hg5 b4.size (fun k hk => by cases hk; exact z3)
        refine hK.out _ _ ⟨rng_bel rA b5 l0, rng_bel rM b5 l1⟩ (fun hHeld => ?_)
        clear hK K
        refine wpAnyH_done (by kernel_rfl) ?_ _
        try simp only [Act.put, List.getElem_toArray, List.getElem_cons_succ, List.getElem_cons_zero]
        obtain ⟨gt, hgt⟩ : ∃ gt, w3.heap.size = gt := ⟨_, rfl⟩
        rw [hgt] at hT5 z3 ⊢
        exact hk.out w5 gt ⟨hT5, b5, z3⟩
      case ob =>
        go_simp
        have b3 := B2.alloc B2.size (.cells #[.int .u8 0, .int .u8 0, .int .u8 0, .int .u8 0, .int .u8 0, .int .u8 0, .int .u8 0, .int .u8 0, .int .u8 0, .int .u8 0, .int .u8 0, .int .u8 0, .int .u8 0, .int .u8 0, .int .u8 0, .int .u8 0, .int .u8 0, .int .u8 0, .int .u8 0, .int .u8 0, .int .u8 0, .int .u8 0, .int .u8 0, .int .u8 0, .int .u8 0, .int .u8 0, .int .u8 0, .int .u8 0, .int .u8 0, .int .u8 0, .int .u8 0, .int .u8 0, .int .u8 0, .int .u8 0, .int .u8 0, .int .u8 0, .int .u8 0, .int .u8 0, .int .u8 0, .int .u8 0, .int .u8 0, .int .u8 0, .int .u8 0, .int .u8 0, .int .u8 0, .int .u8 0, .int .u8 0, .int .u8 0, .int .u8 0, .int .u8 0, .int .u8 0, .int .u8 0, .int .u8 0, .int .u8 0, .int .u8 0, .int .u8 0, .int .u8 0, .int .u8 0, .int .u8 0, .int .u8 0, .int .u8 0, .int .u8 0, .int .u8 0, .int .u8 0] 117)
        have hz : AB (w2.alloc (.cells #[.int .u8 0, .int .u8 0, .int .u8 0, .int .u8 0, .int .u8 0, .int .u8 0, .int .u8 0, .int .u8 0, .int .u8 0, .int .u8 0, .int .u8 0, .int .u8 0, .int .u8 0, .int .u8 0, .int .u8 0, .int .u8 0, .int .u8 0, .int .u8 0, .int .u8 0, .int .u8 0, .int .u8 0, .int .u8 0, .int .u8 0, .int .u8 0, .int .u8 0, .int .u8 0, .int .u8 0, .int .u8 0, .int .u8 0, .int .u8 0, .int .u8 0, .int .u8 0, .int .u8 0, .int .u8 0, .int .u8 0, .int .u8 0, .int .u8 0, .int .u8 0, .int .u8 0, .int .u8 0, .int .u8 0, .int .u8 0, .int .u8 0, .int .u8 0, .int .u8 0, .int .u8 0, .int .u8 0, .int .u8 0, .int .u8 0, .int .u8 0, .int .u8 0, .int .u8 0, .int .u8 0, .int .u8 0, .int .u8 0, .int .u8 0, .int .u8 0, .int .u8 0, .int .u8 0, .int .u8 0, .int .u8 0, .int .u8 0, .int .u8 0, .int .u8 0] 117)) w2.heap.size 117 (List.replicate 64 0) := heap_alloc_new w2 _
        refine hK.out _ _ ⟨rng_bel rA b3 l0, rng_bel rM b3 l1⟩ (fun hHeld => ?_)
        clear hK K
        try simp only [Act.put, List.getElem_toArray, List.getElem_cons_succ, List.getElem_cons_zero, List.setIfInBounds_toArray, List.set_cons_zero, List.set_cons_succ]
        generalize (World.alloc _ _) = w3 at *
        refine wpAnyH_ready (rs := [6]) (by kernel_rfl) (by simp) (AllReadyH.cons rfl (fun K hK => ?_) AllReadyH.nil)
        go_simp
        go_at_call 73
        refine (Hst.out _).mono ?_
        rintro x w4 ⟨rfl, B4⟩
        have b4 := btr (w := W1.drew) b3 B4
        have hz4 := hz.bl B4 hz.lt
        refine hK.out _ _ ⟨rng_bel rA b4 l0, rng_bel rM b4 l1⟩ (fun hHeld => ?_)
        clear hK K
        try simp only [Act.put, List.getElem_toArray, List.getElem_cons_succ, List.getElem_cons_zero, List.setIfInBounds_toArray, List.set_cons_zero, List.set_cons_succ]
        refine wpAnyH_ready (rs := [8]) (by kernel_rfl) (by simp) (AllReadyH.cons rfl (fun K hK => ?_) AllReadyH.nil)
        refine S_storeAB rfl _ _ _ rfl rfl rfl hz4 i64B (by simp) hdl ?_
        intro w5 hT5 hg5
        have z3 : W1.heap.size ≤ w2.heap.size := B2.size
        have b5 := b4.grown hg5 b4.size (fun k hk => by cases hk; exact z3)
        refine hK.out _ _ ⟨rng_bel rA b5 l0, rng_bel rM b5 l1⟩ (fun hHeld => ?_)
        clear hK K
        refine wpAnyH_done (by kernel_rfl) ?_ _
        try simp only [Act.put, List.getElem_toArray, List.getElem_cons_succ, List.getElem_cons_zero]
        exact hk.out w5 w2.heap.size ⟨hT5, b5, z3⟩
    case o2 =>
      go_simp
      have b1 := below_alloc W1.drew (.cells #[.int .u8 0, .int .u8 0, .int .u8 0, .int .u8 0, .int .u8 0, .int .u8 0, .int .u8 0, .int .u8 0, .int .u8 0, .int .u8 0, .int .u8 0, .int .u8 0, .int .u8 0, .int .u8 0, .int .u8 0, .int .u8 0, .int .u8 0, .int .u8 0, .int .u8 0, .int .u8 0, .int .u8 0, .int .u8 0, .int .u8 0, .int .u8 0, .int .u8 0, .int .u8 0, .int .u8 0, .int .u8 0, .int .u8 0, .int .u8 0, .int .u8 0, .int .u8 0, .int .u8 0, .int .u8 0, .int .u8 0, .int .u8 0, .int .u8 0, .int .u8 0, .int .u8 0, .int .u8 0, .int .u8 0, .int .u8 0, .int .u8 0, .int .u8 0, .int .u8 0, .int .u8 0, .int .u8 0, .int .u8 0, .int .u8 0, .int .u8 0, .int .u8 0, .int .u8 0, .int .u8 0, .int .u8 0, .int .u8 0, .int .u8 0, .int .u8 0, .int .u8 0, .int .u8 0, .int .u8 0, .int .u8 0, .int .u8 0, .int .u8 0, .int .u8 0] 117)
      have hz : AB (W1.drew.alloc (.cells #[.int .u8 0, .int .u8 0, .int .u8 0, .int .u8 0, .int .u8 0, .int .u8 0, .int .u8 0, .int .u8 0, .int .u8 0, .int .u8 0, .int .u8 0, .int .u8 0, .int .u8 0, .int .u8 0, .int .u8 0, .int .u8 0, .int .u8 0, .int .u8 0, .int .u8 0, .int .u8 0, .int .u8 0, .int .u8 0, .int .u8 0, .int .u8 0, .int .u8 0, .int .u8 0, .int .u8 0, .int .u8 0, .int .u8 0, .int .u8 0, .int .u8 0, .int .u8 0, .int .u8 0, .int .u8 0, .int .u8 0, .int .u8 0, .int .u8 0, .int .u8 0, .int .u8 0, .int .u8 0, .int .u8 0, .int .u8 0, .int .u8 0, .int .u8 0, .int .u8 0, .int .u8 0, .int .u8 0, .int .u8 0, .int .u8 0, .int .u8 0, .int .u8 0, .int .u8 0, .int .u8 0, .int .u8 0, .int .u8 0, .int .u8 0, .int .u8 0, .int .u8 0, .int .u8 0, .int .u8 0, .int .u8 0, .int .u8 0, .int .u8 0, .int .u8 0] 117)) W1.heap.size 117 (List.replicate 64 0) := heap_alloc_new W1.drew _
      have hb1 := RS.alloc HBM.out (.cells #[.int .u8 0, .int .u8 0, .int .u8 0, .int .u8 0, .int .u8 0, .int .u8 0, .int .u8 0, .int .u8 0, .int .u8 0, .int .u8 0, .int .u8 0, .int .u8 0, .int .u8 0, .int .u8 0, .int .u8 0, .int .u8 0, .int .u8 0, .int .u8 0, .int .u8 0, .int .u8 0, .int .u8 0, .int .u8 0, .int .u8 0, .int .u8 0, .int .u8 0, .int .u8 0, .int .u8 0, .int .u8 0, .int .u8 0, .int .u8 0, .int .u8 0, .int .u8 0, .int .u8 0, .int .u8 0, .int .u8 0, .int .u8 0, .int .u8 0, .int .u8 0, .int .u8 0, .int .u8 0, .int .u8 0, .int .u8 0, .int .u8 0, .int .u8 0, .int .u8 0, .int .u8 0, .int .u8 0, .int .u8 0, .int .u8 0, .int .u8 0, .int .u8 0, .int .u8 0, .int .u8 0, .int .u8 0, .int .u8 0, .int .u8 0, .int .u8 0, .int .u8 0, .int .u8 0, .int .u8 0, .int .u8 0, .int .u8 0, .int .u8 0, .int .u8 0] 117)
      refine hK.out _ _ ⟨rng_bel rA b1 l0, rng_bel rM b1 l1⟩ (fun hHeld => ?_)
      clear hK K
      try simp only [Act.put, List.getElem_toArray, List.getElem_cons_succ, List.getElem_cons_zero, List.setIfInBounds_toArray, List.set_cons_zero, List.set_cons_succ]
      obtain ⟨w2, hw2⟩ : ∃ w2, W1.drew.alloc (.cells #[.int .u8 0, .int .u8 0, .int .u8 0, .int .u8 0, .int .u8 0, .int .u8 0, .int .u8 0, .int .u8 0, .int .u8 0, .int .u8 0, .int .u8 0, .int .u8 0, .int .u8 0, .int .u8 0, .int .u8 0, .int .u8 0, .int .u8 0, .int .u8 0, .int .u8 0, .int .u8 0, .int .u8 0, .int .u8 0, .int .u8 0, .int .u8 0, .int .u8 0, .int .u8 0, .int .u8 0, .int .u8 0, .int .u8 0, .int .u8 0, .int .u8 0, .int .u8 0, .int .u8 0, .int .u8 0, .int .u8 0, .int .u8 0, .int .u8 0, .int .u8 0, .int .u8 0, .int .u8 0, .int .u8 0, .int .u8 0, .int .u8 0, .int .u8 0, .int .u8 0, .int .u8 0, .int .u8 0, .int .u8 0, .int .u8 0, .int .u8 0, .int .u8 0, .int .u8 0, .int .u8 0, .int .u8 0, .int .u8 0, .int .u8 0, .int .u8 0, .int .u8 0, .int .u8 0, .int .u8 0, .int .u8 0, .int .u8 0, .int .u8 0, .int .u8 0] 117) = w2 := ⟨_, rfl⟩
      rw [hw2] at b1 hz hb1
      refine wpAnyH_ready (rs := [5]) (by kernel_rfl) (by simp) (AllReadyH.cons rfl (fun K hK => ?_) AllReadyH.nil)
      go_simp
      go_at_call 82
      have Hl := Hlow.out _ hb1
      rw [← hw2] at Hl
      refine Hl.mono ?_
      have e2 : (W1.alloc (.cells #[.int .u8 0, .int .u8 0, .int .u8 0, .int .u8 0, .int .u8 0, .int .u8 0, .int .u8 0, .int .u8 0, .int .u8 0, .int .u8 0, .int .u8 0, .int .u8 0, .int .u8 0, .int .u8 0, .int .u8 0, .int .u8 0, .int .u8 0, .int .u8 0, .int .u8 0, .int .u8 0, .int .u8 0, .int .u8 0, .int .u8 0, .int .u8 0, .int .u8 0, .int .u8 0, .int .u8 0, .int .u8 0, .int .u8 0, .int .u8 0, .int .u8 0, .int .u8 0, .int .u8 0, .int .u8 0, .int .u8 0, .int .u8 0, .int .u8 0, .int .u8 0, .int .u8 0, .int .u8 0, .int .u8 0, .int .u8 0, .int .u8 0, .int .u8 0, .int .u8 0, .int .u8 0, .int .u8 0, .int .u8 0, .int .u8 0, .int .u8 0, .int .u8 0, .int .u8 0, .int .u8 0, .int .u8 0, .int .u8 0, .int .u8 0, .int .u8 0, .int .u8 0, .int .u8 0, .int .u8 0, .int .u8 0, .int .u8 0, .int .u8 0, .int .u8 0] 117)).drew = w2 := hw2
      rw [show (W1.drew.alloc (.cells #[.int .u8 0, .int .u8 0, .int .u8 0, .int .u8 0, .int .u8 0, .int .u8 0, .int .u8 0, .int .u8 0, .int .u8 0, .int .u8 0, .int .u8 0, .int .u8 0, .int .u8 0, .int .u8 0, .int .u8 0, .int .u8 0, .int .u8 0, .int .u8 0, .int .u8 0, .int .u8 0, .int .u8 0, .int .u8 0, .int .u8 0, .int .u8 0, .int .u8 0, .int .u8 0, .int .u8 0, .int .u8 0, .int .u8 0, .int .u8 0, .int .u8 0, .int .u8 0, .int .u8 0, .int .u8 0, .int .u8 0, .int .u8 0, .int .u8 0, .int .u8 0, .int .u8 0, .int .u8 0, .int .u8 0, .int .u8 0, .int .u8 0, .int .u8 0, .int .u8 0, .int .u8 0, .int .u8 0, .int .u8 0, .int .u8 0, .int .u8 0, .int .u8 0, .int .u8 0, .int .u8 0, .int .u8 0, .int .u8 0, .int .u8 0, .int .u8 0, .int .u8 0, .int .u8 0, .int .u8 0, .int .u8 0, .int .u8 0, .int .u8 0, .int .u8 0] 117)) = w2 from hw2]
      rintro x w3 ⟨rfl, m2, rfl⟩
      have B3 : Below w2.heap.size w2 (w2.drewN m2) := below_drewN (Below.refl _ _) m2
      have b3 := btr (w := W1.drew) b1 B3
      have hz3 := hz.bl B3 hz.lt
      refine hK.out _ _ ⟨rng_bel rA b3 l0, rng_bel rM b3 l1⟩ (fun hHeld => ?_)
      clear hK K
      try simp only [Act.put, List.getElem_toArray, List.getElem_cons_succ, List.getElem_cons_zero, List.setIfInBounds_toArray, List.set_cons_zero, List.set_cons_succ]
      generalize (World.drewN _ _) = w3 at *
      refine wpAnyH_ready (rs := [6]) (by kernel_rfl) (by simp) (AllReadyH.cons rfl (fun K hK => ?_) AllReadyH.nil)
      go_simp
      go_at_call 73
      refine (Hst.out _).mono ?_
      rintro x w4 ⟨rfl, B4⟩
      have b4 := btr (w := W1.drew) b3 B4
      have hz4 := hz3.bl B4 hz3.lt
      refine hK.out _ _ ⟨rng_bel rA b4 l0, rng_bel rM b4 l1⟩ (fun hHeld => ?_)
      clear hK K
      try simp only [Act.put, List.getElem_toArray, List.getElem_cons_succ, List.getElem_cons_zero, List.setIfInBounds_toArray, List.set_cons_zero, List.set_cons_succ]
      refine wpAnyH_ready (rs := [8]) (by kernel_rfl) (by simp) (AllReadyH.cons rfl (fun K hK => ?_) AllReadyH.nil)
      refine S_storeAB rfl _ _ _ rfl rfl rfl hz4 i64B (by simp) hdl ?_
      intro w5 hT5 hg5
      have b5 := b4.grown hg5 b4.size (fun k hk => by cases hk; exact Nat.le_refl _)
      refine hK.out _ _ ⟨rng_bel rA b5 l0, rng_bel rM b5 l1⟩ (fun hHeld => ?_)
      clear hK K
      refine wpAnyH_done (by kernel_rfl) ?_ _
      try simp only [Act.put, List.getElem_toArray, List.getElem_cons_succ, List.getElem_cons_zero]
      exact hk.out w5 W1.heap.size ⟨hT5, b5, Nat.le_refl _⟩
  case rest1 =>
    intro w5 gt hF
    have b5 : Below W1.heap.size W1 w5 := below_undrew hF.bl
    have hb5 := HB.out.trans (b5.mono hbs)
    have hO5 := HO.out.bl b5 l2
    have hr5 : w5.rangeAt gt 0 ((d.take 5).map B) := rng_take hF.ab.rng 5
    rw [Hr.out] at hr5
    have hs5 : (Tryd.prog.info? 84).map (·.size) = some (m.map B).length := by rw [List.length_map, hml]; exact i5
    have hi2 := Lib.hid (show (Tryd.prog.info? 84).map (·.size) = some (m.map B).toArray.size by rw [List.size_toArray]; exact hs5)
    have hu5 := Tryd.underlying84
    have p3 : ∀ w', (Instr.arrayAt 84 (.slice (some ⟨gt, 0, none⟩) 5 64)).run Tryd.prog w' = .ok (.pointer (some ⟨gt, 0, none⟩)) w' := run_arrAt hu5 _ 5 64 (by decide)
    have HB5 := Lib.hid hb5
    clear hHeld Hlow Hst HBM HO HB p2 sl4 hs32 hs12 hF b5 hb5 rA rM
    go_wp2_with (first
      | (refine wpList_load_mid rfl _ _ rfl _ _ rfl (m.map B) _ hr5 hu5 rfl hs5 ?_)
      | (refine L_storeAB rfl _ _ _ rfl rfl rfl hO5 i5 (by simp [z5]) hml ?_; intro w6 hT6 hg6))
    refine bodyPost_ret_by (results_cell_row rfl _ _ _ _ _ _ _ rfl hT6 Tryd.underlying84 rfl hi2.out) rfl ⟨rfl, ?_⟩
    exact HB5.out.grown hg6 HB5.out.size (fun k hk => by cases hk; omega)
end Go.Proofs.YtlncnjcbgfeaoaaDoor

/- salt.Close, salt.Open. -/
set_option maxRecDepth 100000
set_option linter.unusedVariables false
namespace Go.Proofs.YtlncnjcbgfeaoaaDoor
open Go.RowKit
def closeS (key nonce p beside : List UInt8) : List UInt8 := mixS key nonce p ++ markS key nonce (mixS key nonce p) beside
structure CL (key nonce p beside d : List UInt8) : Prop where
  h : closeS key nonce p beside = d
  len : d.length = p.length + 16
theorem markS_len (key nonce p beside : List UInt8) : (markS key nonce p beside).length = 16 := tout_len _ _ _
theorem mixS_len (key nonce p : List UInt8) : (mixS key nonce p).length = p.length := mixJ_len _ _ _
theorem CL_ex (key nonce p beside : List UInt8) : ∃ d, CL key nonce p beside d := ⟨_, rfl, by simp [closeS, markS_len, mixS_len]⟩
/-- what opening answers -/
def openS (key nonce p beside : List UInt8) : List UInt8 × Nat :=
  if p.length < 16 then ([], 2) else
  if markS key nonce (p.take (p.length - 16)) beside == p.drop (p.length - 16) then (mixS key nonce (p.take (p.length - 16)), 0) else ([], 5)
set_option maxHeartbeats 4000000 in
theorem close_any (w : World) {a b : Option Addr} {n c m e : Nat} {key nonce p bs d : List UInt8} (hkl : key.length = 32) (hnl : nonce.length = 12) (hp : BS w a n c p) (hb : BS w b m e bs) (hn : n + m ≤ 549755813888) (hD : CL key nonce p bs d) :
    Calls Tryd.prog 46 #[.agg (key.map B).toArray, .agg (nonce.map B).toArray, .slice a n c, .slice b m e] w fun x w' => ∃ a' c', x = .returned (.slice a' (n + 16) c') ∧ OW w' w.heap.size 5 1 a' (n + 16) c' (d.map B) ∧ Below w.heap.size w w' := by
  have hz1 : (w.alloc (.cells (key.map B).toArray 22)).heap.size = w.heap.size + 1 := by simp
  have hA := (AB_box w 22 key).al (.cells (nonce.map B).toArray 31)
  have hM := AB_box (w.alloc (.cells (key.map B).toArray 22)) 31 nonce
  have hbl : Below w.heap.size w _ := (below_alloc w (.cells (key.map B).toArray 22)).alloc (by simp) (.cells (nonce.map B).toArray 31)
  have hp1 := (RS.alloc hp (.cells (key.map B).toArray 22)).alloc (.cells (nonce.map B).toArray 31)
  rw [hz1] at hM
  have hpl := BS.len hp
  have hi32 := Lib.hid (show (Tryd.prog.info? 22).map (·.size) = some (key.map B).length by rw [List.length_map, hkl]; kernel_rfl)
  have hi12 := Lib.hid (show (Tryd.prog.info? 31).map (·.size) = some (nonce.map B).length by rw [List.length_map, hnl]; kernel_rfl)
  obtain ⟨X, hX⟩ := MX_ex key nonce p
  obtain ⟨T, hT⟩ := MK_ex key nonce X bs
  have hTl := hT.len
  have hres : EB (X ++ T) d := ⟨by
    have h := hD.h
    unfold closeS at h
    rw [hX.h, hT.h] at h
    exact h⟩
  clear hz1
  go_enter Tryd.func46, Tryd.ntmps46
  go_upto_region 1 with (fail)
  generalize (World.alloc _ _) = W1 at *
  have l0 := hA.lt
  have l1 := hM.lt
  have hbs := hbl.size
  have rA := hA.rng
  have rM := hM.rng
  have Hmx := Lib.hid (mix_any W1 hkl hnl hp1 (by omega) hX)
  have HA := Lib.hid hA
  have HM := Lib.hid hM
  have HB := Lib.hid hbl
  clear hA hM hbl hX
  go_upto_region 2 with (first
    | (refine wpList_load_mid rfl _ _ rfl _ _ rfl (key.map B) _ rA Tryd.underlying22 rfl hi32.out ?_)
    | (refine wpList_load_mid rfl _ _ rfl _ _ rfl (nonce.map B) _ rM Tryd.underlying31 rfl hi12.out ?_)
    | (go_at_call 56; refine Hmx.out.mono ?_; rintro x w2 ⟨a2, c2, rfl, o2, B2⟩))
  have rA2 := (HA.out.bl B2 l0).rng
  have rM2 := (HM.out.bl B2 l1).rng
  have hb2 := HB.out.trans (B2.mono hbs)
  have z2 := B2.size
  have hq2 := RS.below hb hb2 (Nat.le_refl _)
  have Hmk := Lib.hid (mark_any w2 hkl hnl o2.rs hq2 hn hT)
  have O2 := Lib.hid o2
  have HB2 := Lib.hid hb2
  clear hb2 o2 B2 hq2 hT rA rM Hmx HA HM HB
  go_upto_region 3 with (first
    | (refine wpList_load_mid rfl _ _ rfl _ _ rfl (key.map B) _ rA2 Tryd.underlying22 rfl hi32.out ?_)
    | (refine wpList_load_mid rfl _ _ rfl _ _ rfl (nonce.map B) _ rM2 Tryd.underlying31 rfl hi12.out ?_)
    | (go_at_call 54; refine Hmk.out.mono ?_; rintro x w3 ⟨rfl, B3⟩)
    | (refine L_storeAB rfl _ _ _ rfl rfl rfl (show AB (w3.alloc _) w3.heap.size 92 z16 from heap_alloc_new w3 _) i16 (by simp [z16]) hTl ?_; intro w4 hT4 hg4))
  have z3 := B3.size
  have b4 : Below w2.heap.size w2 w4 := (B3.alloc z3 _).grown hg4 (by simp; omega) (fun k hk => by cases hk; exact z3)
  have o4 := O2.out.below b4 (Nat.le_refl _)
  have hT5 := hT4.whole (n := 16) hTl (by omega)
  have hb4 := HB2.out.trans (b4.mono HB2.out.size)
  have z4 := b4.size
  have HB4 := Lib.hid hb4
  clear hb4 hT4 b4 hg4 B3 rA2 rM2 Hmk
  go_wp2_with (refine L_append tB o4 hT5 _ _ rfl rfl rfl rfl (by omega) (by unfold maxLen; omega) (by omega) ?_; intro a5 c5 w5 o5 g5)
  have hb5 := HB4.out.grown g5 HB4.out.size (row_le (fun ad ha => Nat.le_trans hbs (o4.base_le ha).1) (Nat.le_refl _))
  rw [← List.map_append, hres.h] at o5
  have O5 := Lib.hid o5
  have HB5 := Lib.hid hb5
  clear o5 hb5 g5
  go_ret
  exact ⟨a5, c5, rfl, O5.out.mono hbs, HB5.out⟩
end Go.Proofs.YtlncnjcbgfeaoaaDoor
