/- salt.mark: the tag of what is closed. -/
import Derived.Test.YtlncnjcbgfeaoaaCE
import Derived.Test.YtlncnjcbgfeaoaaCF
import Derived.Test.YtlncnjcbgfeaoaaJN
set_option maxRecDepth 100000
set_option linter.unusedVariables false
namespace Go.Proofs.Ytlncnjcbgfeaoaa
open Go.RowKit
/-- what is marked -/
def msgS (p beside : List UInt8) : List UInt8 := beside ++ List.replicate (padN beside.length) 0 ++ p ++ List.replicate (padN p.length) 0 ++ le8 beside.length ++ le8 p.length
def markS (key nonce p beside : List UInt8) : List UInt8 := tagS ((blkS key nonce 0).take 32) (msgS p beside)
structure MK (key nonce p beside d : List UInt8) : Prop where
  h : markS key nonce p beside = d
  len : d.length = 16
theorem MK_ex (key nonce p beside : List UInt8) : ∃ d, MK key nonce p beside d := ⟨_, rfl, tout_len _ _ _⟩
theorem le8_len (n : Nat) : (le8 n).length = 8 := by simp [le8]
theorem padN_lt (n : Nat) : padN n < 16 := by unfold padN; omega
theorem msgS_len (p beside : List UInt8) : (msgS p beside).length = beside.length + padN beside.length + p.length + padN p.length + 16 := by
  simp [msgS, le8_len]; omega
theorem rng_bel {n : Nat} {w w' : World} {b o : Nat} {cs : List Value} (h : w.rangeAt b o cs) (hb : Below n w w') (hg : b < n) : w'.rangeAt b o cs := fun j v hv =>
  (hb.cell (p := ⟨b, o + j, none⟩) hg).trans (h j v hv)
theorem run_arrAt {P : Program} {t e : TypeId} {k : Nat} (hu : P.underlying t = some (.array k e)) (a : Option Addr) (n c : Nat) (h : k ≤ n) (w : World) : (Instr.arrayAt t (.slice a n c)).run P w = .ok (.pointer a) w := by
  unfold Instr.arrayAt
  rw [Sem.run_bind, run_underlying hu]
  simp [Result.andThen, Nat.not_lt.2 h]
/-- the same store as a step of a region that draws its order -/
theorem S_storeAB {w : World} {ops : Array Oper} {o : Oper} {f : Act} {K : Act → World → Prop} {Q : Exit → Act → World → Prop} {E : Prop} (hgd : o.guard = none) (t : TypeId) (x y : Operand) (ho : o.op = .store t x y)
    {g n : Nat} {old d : List UInt8} (hx : f.eval x = .pointer (some ⟨g, 0, none⟩)) (hy : f.eval y = .agg (d.map B).toArray) (hA : AB w g t old) (hi : (Try.prog.info? t).map (·.size) = some n) (hl : old.length = n) (hl2 : d.length = n)
    (h : ∀ w', AB w' g t d → w.grownBy w' (some g) → K (f.put o.dst undef) w') : if Region.wanted o (yielded ops f.tmps) = true then Oper.wp Try.prog o f w K Q else E := by
  rw [if_pos (by simp [Region.wanted, hgd])]
  refine wp_store_row t x y ho g _ hx hy t _ hA (by rw [List.size_toArray, List.length_map, hl2]; exact hi) (by simp [hl, hl2]) (by rw [Array.all_eq_true_iff_forall_mem]; intro v hv; exact one_B _ v (by simpa using hv)) ?_
  exact h _ (setRow_heap _ _ _ _ _ _ hA) (grownBy_setRow w g _)
theorem PS_six {w : World} {a0 a1 a2 a3 a4 a5 : Option Addr} {n0 n1 n2 n3 n4 n5 c0 c1 c2 c3 c4 c5 : Nat} {p0 p1 p2 p3 p4 p5 : List UInt8} {g : Nat} (hg : g = w.heap.size)
    (h0 : BS w a0 n0 c0 p0) (h1 : BS w a1 n1 c1 p1) (h2 : BS w a2 n2 c2 p2) (h3 : BS w a3 n3 c3 p3) (h4 : BS w a4 n4 c4 p4) (h5 : BS w a5 n5 c5 p5) :
    PS (w.alloc (.cells #[.slice a0 n0 c0, .slice a1 n1 c1, .slice a2 n2 c2, .slice a3 n3 c3, .slice a4 n4 c4, .slice a5 n5 c5] 23)) (some ⟨g, 0, none⟩) 6 6 [p0, p1, p2, p3, p4, p5] := by
  subst hg
  refine ⟨[.slice a0 n0 c0, .slice a1 n1 c1, .slice a2 n2 c2, .slice a3 n3 c3, .slice a4 n4 c4, .slice a5 n5 c5], RS_new w _ #[.slice a0 n0 c0, .slice a1 n1 c1, .slice a2 n2 c2, .slice a3 n3 c3, .slice a4 n4 c4, .slice a5 n5 c5] 6 rfl (by omega) (by simp [Value.oneCell']), rfl, fun i q hi => ?_⟩
  have hk : i = 0 ∨ i = 1 ∨ i = 2 ∨ i = 3 ∨ i = 4 ∨ i = 5 := by have := (List.getElem?_eq_some_iff.1 hi).1; simp at this; omega
  rcases hk with rfl | rfl | rfl | rfl | rfl | rfl <;> cases hi
  · exact ⟨a0, n0, c0, rfl, RS.alloc h0 _⟩
  · exact ⟨a1, n1, c1, rfl, RS.alloc h1 _⟩
  · exact ⟨a2, n2, c2, rfl, RS.alloc h2 _⟩
  · exact ⟨a3, n3, c3, rfl, RS.alloc h3 _⟩
  · exact ⟨a4, n4, c4, rfl, RS.alloc h4 _⟩
  · exact ⟨a5, n5, c5, rfl, RS.alloc h5 _⟩
set_option maxHeartbeats 4000000 in
theorem mark_any (w : World) {a b : Option Addr} {n c m e : Nat} {key nonce p bs d : List UInt8} (hkl : key.length = 32) (hnl : nonce.length = 12) (hp : BS w a n c p) (hb : BS w b m e bs) (hn : n + m ≤ 549755813888) (hD : MK key nonce p bs d) :
    Calls Try.prog 30 #[.agg (key.map B).toArray, .agg (nonce.map B).toArray, .slice a n c, .slice b m e] w fun x w' => x = .returned (.agg (d.map B).toArray) ∧ Below w.heap.size w w' := by
  have hz1 : (w.alloc (.cells (key.map B).toArray 22)).heap.size = w.heap.size + 1 := by simp
  have hz2 : ((w.alloc (.cells (key.map B).toArray 22)).alloc (.cells (nonce.map B).toArray 32)).heap.size = w.heap.size + 1 + 1 := by simp
  have hA := ((AB_box w 22 key).al (.cells (nonce.map B).toArray 32)).al (.cells (z16.map B).toArray 27)
  have hM := (AB_box (w.alloc (.cells (key.map B).toArray 22)) 32 nonce).al (.cells (z16.map B).toArray 27)
  have hO := AB_box ((w.alloc (.cells (key.map B).toArray 22)).alloc (.cells (nonce.map B).toArray 32)) 27 z16
  have hbl := ((below_alloc w (.cells (key.map B).toArray 22)).alloc (by simp) (.cells (nonce.map B).toArray 32)).alloc (by simp; omega) (.cells (z16.map B).toArray 27)
  rw [hz1] at hM
  rw [hz2] at hO
  rw [show (z16.map B).toArray = #[.int .u8 0, .int .u8 0, .int .u8 0, .int .u8 0, .int .u8 0, .int .u8 0, .int .u8 0, .int .u8 0, .int .u8 0, .int .u8 0, .int .u8 0, .int .u8 0, .int .u8 0, .int .u8 0, .int .u8 0, .int .u8 0] from rfl] at hA hM hO hbl
  have hpl := BS.len hp
  have hql := BS.len hb
  have hi32 := Lib.hid (show (Try.prog.info? 22).map (·.size) = some (key.map B).length by rw [List.length_map, hkl]; kernel_rfl)
  have hi12 := Lib.hid (show (Try.prog.info? 32).map (·.size) = some (nonce.map B).length by rw [List.length_map, hnl]; kernel_rfl)
  obtain ⟨bk, hbk⟩ := ST_ex key nonce 0
  have hbkl := hbk.len
  have hres := hD.h
  unfold markS at hres
  rw [show blkS key nonce 0 = bk from hbk.h] at hres
  have Hres := EB.mk hres
  clear hz1 hz2 hres
  go_enter Try.func30, Try.ntmps30
  go_upto_region 1 with (fail)
  generalize (World.alloc _ _) = W1 at *
  have l0 := hA.lt
  have l1 := hM.lt
  have l2 := hO.lt
  have rA := hA.rng
  have rM := hM.rng
  have hbs := hbl.size
  have Hst := Lib.hid (stir_any W1 hkl hnl 0 (by decide) hbk)
  have HO := Lib.hid hO
  have HB := Lib.hid hbl
  clear hA hM hO hbl hbk
  go_upto_region 2 with (first
    | (refine wpList_load_mid rfl _ _ rfl _ _ rfl (key.map B) _ rA Try.underlying22 rfl hi32.out ?_)
    | (refine wpList_load_mid rfl _ _ rfl _ _ rfl (nonce.map B) _ rM Try.underlying32 rfl hi12.out ?_)
    | (go_at_call 34; refine Hst.out.mono ?_; rintro x w2 ⟨rfl, B2⟩)
    | (refine L_storeAB rfl _ _ _ rfl rfl rfl (show AB (w2.alloc _) w2.heap.size 63 (List.replicate 64 0) from heap_alloc_new w2 _) i64B (by simp) hbkl ?_; intro w3 hb3 hg3))
  have z2 := B2.size
  have b3 : Below W1.heap.size W1 w3 := (B2.alloc z2 _).grown hg3 (by simp; omega) (fun k hk => by cases hk; exact z2)
  have hO3 := HO.out.bl b3 l2
  have hbl3 := HB.out.trans (b3.mono hbs)
  obtain ⟨gb, hgb⟩ : ∃ gb, w2.heap.size = gb := ⟨_, rfl⟩
  rw [hgb] at hb3 ⊢
  have lgb : w.heap.size + 1 + 1 < gb := by omega
  have lb3 := hb3.lt
  have h64 := hb3.whole (n := 64) hbkl (by omega)
  have h32 := runB_take h64 32 (by omega)
  have r32 : w3.rangeAt gb 0 ((bk.take 32).map B) := fun j v hv => by
    have := hb3.rng j v (by
      rw [List.getElem?_map, List.getElem?_take] at hv
      rw [List.getElem?_map]
      split at hv
      · exact hv
      · cases hv)
    exact this
  have hi32b := Lib.hid (show (Try.prog.info? 22).map (·.size) = some ((bk.take 32).map B).length by rw [List.length_map, List.length_take, hbkl]; kernel_rfl)
  obtain ⟨K32, hK32⟩ : ∃ K32, bk.take 32 = K32 := ⟨_, rfl⟩
  have hk32l : K32.length = 32 := by rw [← hK32, List.length_take, hbkl]; rfl
  have Hr2 : EB (tagS K32 (msgS p bs)) d := ⟨by rw [← hK32]; exact Hres.h⟩
  rw [hK32] at r32 hi32b
  have HO3 := Lib.hid hO3
  have HB3 := Lib.hid hbl3
  have R32 := Lib.hid (show w3.drew.rangeAt gb 0 (K32.map B) from r32)
  clear hgb hO3 hbl3 hb3 hg3 h64 h32 b3 B2 hK32 r32 Hst HO HB rA rM Hres
  have hu32 := Try.underlying22
  have hs32 := hi32b.out
  have hp2 : ∀ w', (Instr.arrayAt 22 (.slice (some ⟨gb, 0, none⟩) 32 64)).run Try.prog w' = .ok (.pointer (some ⟨gb, 0, none⟩)) w' := run_arrAt hu32 _ 32 64 (by decide)
  refine wp_region_noPanic ?_
  refine wp_region_held_drew (S := fun w' => w'.rangeAt gb 0 (K32.map B)) (by kernel_rfl) R32.out (fun hHeld => ?_)
  refine wpAnyH_take (i := 0) (v := .slice (some ⟨gb, 0, none⟩) 32 64) rfl (by kernel_rfl) (by kernel_rfl) (by kernel_rfl) (fun _ _ _ h => h) (Or.inl ⟨by rfl, fun w h => by go_simp⟩) hHeld ?_
  try simp only [Act.put, List.getElem_toArray, List.getElem_cons_zero, List.setIfInBounds_toArray, List.set_cons_zero, List.set_cons_succ]
  refine wpAnyH_take (i := 1) (v := .pointer (some ⟨gb, 0, none⟩)) rfl (by kernel_rfl) (by kernel_rfl) (by kernel_rfl) (fun _ _ _ h => h) (Or.inl ⟨by rfl, fun w h => by go_simp⟩) hHeld ?_
  try simp only [Act.put, List.getElem_toArray, List.getElem_cons_succ, List.getElem_cons_zero, List.setIfInBounds_toArray, List.set_cons_zero, List.set_cons_succ]
  refine wpAnyH_take (i := 2) rfl (by kernel_rfl) (by kernel_rfl) (by kernel_rfl) (fun _ _ _ h => h) (yieldsIf_load_mid (by rfl) _ _ rfl _ _ rfl _ _ (fun w h => h) hu32 rfl hs32) hHeld ?_
  try simp only [Act.put, List.getElem_toArray, List.getElem_cons_succ, List.getElem_cons_zero, List.setIfInBounds_toArray, List.set_cons_zero, List.set_cons_succ]
  refine wpAnyH_take (i := 3) (v := .slice b m e) rfl (by kernel_rfl) (by kernel_rfl) (by kernel_rfl) (fun _ _ _ h => h) (Or.inl ⟨by rfl, fun w h => by go_simp⟩) hHeld ?_
  try simp only [Act.put, List.getElem_toArray, List.getElem_cons_succ, List.getElem_cons_zero, List.setIfInBounds_toArray, List.set_cons_zero, List.set_cons_succ]
  refine wpAnyH_take (i := 4) (v := .slice b m e) rfl (by kernel_rfl) (by kernel_rfl) (by kernel_rfl) (fun _ _ _ h => h) (Or.inl ⟨by rfl, fun w h => by go_simp⟩) hHeld ?_
  try simp only [Act.put, List.getElem_toArray, List.getElem_cons_succ, List.getElem_cons_zero, List.setIfInBounds_toArray, List.set_cons_zero, List.set_cons_succ]
  refine wpAnyH_take (i := 6) (v := .slice a n c) rfl (by kernel_rfl) (by kernel_rfl) (by kernel_rfl) (fun _ _ _ h => h) (Or.inl ⟨by rfl, fun w h => by go_simp⟩) hHeld ?_
  try simp only [Act.put, List.getElem_toArray, List.getElem_cons_succ, List.getElem_cons_zero, List.setIfInBounds_toArray, List.set_cons_zero, List.set_cons_succ]
  refine wpAnyH_take (i := 7) (v := .slice a n c) rfl (by kernel_rfl) (by kernel_rfl) (by kernel_rfl) (fun _ _ _ h => h) (Or.inl ⟨by rfl, fun w h => by go_simp⟩) hHeld ?_
  try simp only [Act.put, List.getElem_toArray, List.getElem_cons_succ, List.getElem_cons_zero, List.setIfInBounds_toArray, List.set_cons_zero, List.set_cons_succ]
  refine wpAnyH_take (i := 9) (v := .slice b m e) rfl (by kernel_rfl) (by kernel_rfl) (by kernel_rfl) (fun _ _ _ h => h) (Or.inl ⟨by rfl, fun w h => by go_simp⟩) hHeld ?_
  try simp only [Act.put, List.getElem_toArray, List.getElem_cons_succ, List.getElem_cons_zero, List.setIfInBounds_toArray, List.set_cons_zero, List.set_cons_succ]
  refine wpAnyH_take (i := 10) (v := .int .i64 (m : Int)) rfl (by kernel_rfl) (by kernel_rfl) (by kernel_rfl) (fun _ _ _ h => h) (Or.inl ⟨by rfl, fun w h => by go_simp⟩) hHeld ?_
  try simp only [Act.put, List.getElem_toArray, List.getElem_cons_succ, List.getElem_cons_zero, List.setIfInBounds_toArray, List.set_cons_zero, List.set_cons_succ]
  refine wpAnyH_take (i := 12) (v := .slice a n c) rfl (by kernel_rfl) (by kernel_rfl) (by kernel_rfl) (fun _ _ _ h => h) (Or.inl ⟨by rfl, fun w h => by go_simp⟩) hHeld ?_
  try simp only [Act.put, List.getElem_toArray, List.getElem_cons_succ, List.getElem_cons_zero, List.setIfInBounds_toArray, List.set_cons_zero, List.set_cons_succ]
  refine wpAnyH_take (i := 13) (v := .int .i64 (n : Int)) rfl (by kernel_rfl) (by kernel_rfl) (by kernel_rfl) (fun _ _ _ h => h) (Or.inl ⟨by rfl, fun w h => by go_simp⟩) hHeld ?_
  try simp only [Act.put, List.getElem_toArray, List.getElem_cons_succ, List.getElem_cons_zero, List.setIfInBounds_toArray, List.set_cons_zero, List.set_cons_succ]
  refine wpAnyH_ready (rs := [5]) (by kernel_rfl) (by simp) (AllReadyH.cons rfl (fun K hK => ?_) AllReadyH.nil)
  go_simp
  go_at_call 40
  refine (padded_any _ _ m e (by omega)).mono ?_
  rintro x w4 ⟨a4, c4, rfl, o4, B4⟩
  have b4 : Below w3.drew.heap.size w3.drew w4 := B4
  refine hK.out _ _ (rng_bel R32.out b4 lb3) (fun hHeld => ?_)
  clear hK K
  try simp only [Act.put, List.getElem_toArray, List.getElem_cons_succ, List.getElem_cons_zero, List.setIfInBounds_toArray, List.set_cons_zero, List.set_cons_succ]
  refine wpAnyH_ready (rs := [8]) (by kernel_rfl) (by simp) (AllReadyH.cons rfl (fun K hK => ?_) AllReadyH.nil)
  go_simp
  go_at_call 40
  refine (padded_any _ _ n c (by omega)).mono ?_
  rintro x w5 ⟨a5, c5, rfl, o5, B5⟩
  have b5 := btr b4 B5
  have h45 := RS.below o4.rs B5 (Nat.le_refl _)
  refine hK.out _ _ (rng_bel R32.out b5 lb3) (fun hHeld => ?_)
  clear hK K
  try simp only [Act.put, List.getElem_toArray, List.getElem_cons_succ, List.getElem_cons_zero, List.setIfInBounds_toArray, List.set_cons_zero, List.set_cons_succ]
  refine wpAnyH_ready (rs := [11]) (by kernel_rfl) (by simp) (AllReadyH.cons rfl (fun K hK => ?_) AllReadyH.nil)
  go_simp
  go_at_call 41
  refine (eight_any _ m (by omega)).mono ?_
  rintro x w6 ⟨a6, rfl, o6, B6⟩
  have b6 := btr b5 B6
  have h46 := RS.below h45 B6 (Nat.le_refl _)
  have h56 := RS.below o5.rs B6 (Nat.le_refl _)
  refine hK.out _ _ (rng_bel R32.out b6 lb3) (fun hHeld => ?_)
  clear hK K
  try simp only [Act.put, List.getElem_toArray, List.getElem_cons_succ, List.getElem_cons_zero, List.setIfInBounds_toArray, List.set_cons_zero, List.set_cons_succ]
  refine wpAnyH_ready (rs := [14]) (by kernel_rfl) (by simp) (AllReadyH.cons rfl (fun K hK => ?_) AllReadyH.nil)
  go_simp
  go_at_call 41
  refine (eight_any _ n (by omega)).mono ?_
  rintro x w7 ⟨a7, rfl, o7, B7⟩
  have b7 := btr b6 B7
  have h47 := RS.below h46 B7 (Nat.le_refl _)
  have h57 := RS.below h56 B7 (Nat.le_refl _)
  have h67 := RS.below o6.rs B7 (Nat.le_refl _)
  have hb37 : Below w.heap.size w w7 := (show Below w.heap.size w w3.drew from HB3.out.drew).trans (b7.mono HB3.out.size)
  have hp7 := RS.below hp hb37 (Nat.le_refl _)
  have hq7 := RS.below hb hb37 (Nat.le_refl _)
  refine hK.out _ _ (rng_bel R32.out b7 lb3) (fun hHeld => ?_)
  clear hK K
  try simp only [Act.put, List.getElem_toArray, List.getElem_cons_succ, List.getElem_cons_zero, List.setIfInBounds_toArray, List.set_cons_zero, List.set_cons_succ]
  refine wpAnyH_ready (rs := [15]) (by kernel_rfl) (by simp) (AllReadyH.cons rfl (fun K hK => ?_) AllReadyH.nil)
  go_simp
  have hps := PS_six (g := w7.heap.size) rfl hq7 h47 hp7 h57 h67 o7.rs
  have b8 := b7.alloc b7.size (.cells #[.slice b m e, .slice a4 (padN m) c4, .slice a n c, .slice a5 (padN n) c5, .slice a6 8 8, .slice a7 8 8] 23)
  refine hK.out _ _ (rng_bel R32.out b8 lb3) (fun hHeld => ?_)
  clear hK K
  try simp only [Act.put, List.getElem_toArray, List.getElem_cons_succ, List.getElem_cons_zero, List.setIfInBounds_toArray, List.set_cons_zero, List.set_cons_succ]
  generalize (World.alloc _ _) = w8 at *
  have hfl : [bs, List.replicate (padN m) 0, p, List.replicate (padN n) 0, le8 m, le8 n].flatten = msgS p bs := by
    unfold msgS; rw [hpl, hql]; simp
  have hml := msgS_len p bs
  have hp1 := padN_lt p.length
  have hp2' := padN_lt bs.length
  have hjn := join_any w8 _ hps (by rw [hfl, hml]; omega)
  rw [hfl] at hjn
  have htg : TG K32 (msgS p bs) d := ⟨Hr2.h, hD.len⟩
  obtain ⟨M, hM⟩ : ∃ M, msgS p bs = M := ⟨_, rfl⟩
  rw [hM] at hjn htg hml
  have Htg := Lib.hid htg
  have Hjn := Lib.hid hjn
  have hml2 : M.length ≤ 1099511627776 := by omega
  clear hml hjn hps hfl hM htg h47 h57 h67 h46 h56 h45 o4 o5 o6 o7 B4 B5 B6 B7 hp7 hq7
  refine wpAnyH_ready (rs := [16]) (by kernel_rfl) (by simp) (AllReadyH.cons rfl (fun K hK => ?_) AllReadyH.nil)
  go_simp
  go_at_call 39
  refine Hjn.out.mono ?_
  rintro x w9 ⟨a9, c9, rfl, o9, B9⟩
  have b9 := btr b8 B9
  refine hK.out _ _ (rng_bel R32.out b9 lb3) (fun hHeld => ?_)
  clear hK K
  try simp only [Act.put, List.getElem_toArray, List.getElem_cons_succ, List.getElem_cons_zero, List.setIfInBounds_toArray, List.set_cons_zero, List.set_cons_succ]
  refine wpAnyH_ready (rs := [17]) (by kernel_rfl) (by simp) (AllReadyH.cons rfl (fun K hK => ?_) AllReadyH.nil)
  go_simp
  go_at_call 12
  refine (tag_any _ hk32l o9.rs hml2 Htg.out).mono ?_
  rintro x w10 ⟨rfl, B10⟩
  have b10 := btr b9 B10
  have hO10 : AB w10 (w.heap.size + 1 + 1) 27 z16 := (show AB w3.drew _ _ _ from HO3.out).bl b10 (by show _ < w3.heap.size; omega)
  have hbl10 : Below w.heap.size w w10 := (show Below w.heap.size w w3.drew from HB3.out.drew).trans (b10.mono HB3.out.size)
  have hdl := hD.len
  refine hK.out _ _ (rng_bel R32.out b10 lb3) (fun hHeld => ?_)
  clear hK K
  try simp only [Act.put, List.getElem_toArray, List.getElem_cons_succ, List.getElem_cons_zero, List.setIfInBounds_toArray, List.set_cons_zero, List.set_cons_succ]
  refine wpAnyH_ready (rs := [18]) (by kernel_rfl) (by simp) (AllReadyH.cons rfl (fun K hK => ?_) AllReadyH.nil)
  refine S_storeAB rfl _ _ _ rfl rfl rfl hO10 i16 (by simp [z16]) hdl ?_
  intro w11 hO11 hg11
  have hbl11 := hbl10.grown hg11 hbl10.size (fun k hk => by cases hk; omega)
  have h16 : (Try.prog.info? 27).map (·.size) = some (d.map B).length := by rw [List.length_map, hdl]; exact i16
  have hi2 := Lib.hid (show (Try.prog.info? 27).map (·.size) = some (d.map B).toArray.size by rw [List.size_toArray]; exact h16)
  clear h16
  refine hK.out _ _ (fun j v hv => (World.cell?_of_block (a := ⟨gb, 0 + j, none⟩) (hg11.block gb (Nat.lt_of_lt_of_le lb3 b10.size) (by simp; omega))).trans (rng_bel R32.out b10 lb3 j v hv)) (fun hHeld => ?_)
  clear hK K
  refine wpAnyH_done (by kernel_rfl) ?_ _
  refine NoPanic.normal ?_
  try simp only [Act.put, List.getElem_toArray, List.getElem_cons_succ, List.getElem_cons_zero]
  go_wp2
  exact bodyPost_ret_by (results_cell_row rfl _ _ _ _ _ _ _ rfl hO11 Try.underlying27 rfl hi2.out) rfl ⟨rfl, hbl11⟩
end Go.Proofs.Ytlncnjcbgfeaoaa
