/- salt.Mask. -/
import Derived.Test.YtlncnjcbgfeaoaaE0
import Derived.Test.YtlncnjcbgfeaoaaCG
import Derived.Deep.QuietTactic
import Derived.BigQuiet
set_option maxRecDepth 100000
set_option linter.unusedVariables false
namespace Go.Proofs.Ytlncnjcbgfeaoaa
open Go.RowKit
theorem rng_drop {w : World} {b o : Nat} {xs : List UInt8} (h : w.rangeAt b o (xs.map B)) (k : Nat) : w.rangeAt b (o + k) ((xs.drop k).map B) := fun j v hv => by
  rw [List.map_drop, List.getElem?_drop] at hv
  have := h (k + j) v hv
  rwa [← Nat.add_assoc] at this
theorem rng_take {w : World} {b o : Nat} {xs : List UInt8} (h : w.rangeAt b o (xs.map B)) (k : Nat) : w.rangeAt b o ((xs.take k).map B) := fun j v hv => by
  rw [List.map_take, List.getElem?_take] at hv
  split at hv
  · exact h j v hv
  · cases hv
def z5 : List UInt8 := List.replicate 5 0
theorem i5 : (Try.prog.info? 46).map (·.size) = some 5 := by kernel_rfl
theorem low4_at (w : World) {a : Option Addr} {n c : Nat} {xs : List UInt8} (hx : BS w a n c xs) (hn : 4 ≤ n) :
    Calls Try.prog 37 #[.slice a n c] w fun e w' => e = .returned (.int .u32 ((le4 xs : Nat) : Int)) ∧ ∃ m, w' = w.drewN m := by
  have hl := BS.len hx
  obtain ⟨x0, x1, x2, x3, r, rfl⟩ : ∃ x0 x1 x2 x3 r, xs = x0 :: x1 :: x2 :: x3 :: r := by
    rcases xs with _ | ⟨x0, _ | ⟨x1, _ | ⟨x2, _ | ⟨x3, r⟩⟩⟩⟩
    all_goals first | exact ⟨_, _, _, _, _, rfl⟩ | (simp at hl; omega)
  exact low4_any w hx x0 x1 x2 x3 r rfl
structure SMF (W1 w4 : World) (gt : Nat) (d : List UInt8) : Prop where
  ab : AB w4 gt 63 d
  bl : Below W1.heap.size W1.drew w4
  le : W1.heap.size ≤ gt
set_option maxHeartbeats 4000000 in
theorem mask_any (w : World) {key sample m : List UInt8} (hkl : key.length = 32) (hsl : sample.length = 16) (hD : MSK key sample m) :
    Calls Try.prog 21 #[.agg (key.map B).toArray, .agg (sample.map B).toArray] w fun x w' => x = .returned (.agg (m.map B).toArray) ∧ Below w.heap.size w w' := by
  have hml := hD.len
  obtain ⟨d, hd⟩ := ST_ex key (sample.drop 4) (le4 sample)
  have hmd : d.take 5 = m := by have := (MSK.of hd).h; rw [hD.h] at this; exact this.symm
  obtain ⟨s4, hs4⟩ : ∃ s4, sample.drop 4 = s4 := ⟨_, rfl⟩
  have hs4l : s4.length = 12 := by rw [← hs4, List.length_drop]; omega
  rw [hs4] at hd
  have hdl := hd.len
  have hle := le4_lt sample
  have hz1 : (w.alloc (.cells (key.map B).toArray 22)).heap.size = w.heap.size + 1 := by simp
  have hz2 : ((w.alloc (.cells (key.map B).toArray 22)).alloc (.cells (sample.map B).toArray 27)).heap.size = w.heap.size + 1 + 1 := by simp
  have hA := ((AB_box w 22 key).al (.cells (sample.map B).toArray 27)).al (.cells #[.int .u8 0, .int .u8 0, .int .u8 0, .int .u8 0, .int .u8 0] 46)
  have hM := (AB_box (w.alloc (.cells (key.map B).toArray 22)) 27 sample).al (.cells #[.int .u8 0, .int .u8 0, .int .u8 0, .int .u8 0, .int .u8 0] 46)
  have hO : AB (((w.alloc (.cells (key.map B).toArray 22)).alloc (.cells (sample.map B).toArray 27)).alloc (.cells #[.int .u8 0, .int .u8 0, .int .u8 0, .int .u8 0, .int .u8 0] 46)) ((w.alloc (.cells (key.map B).toArray 22)).alloc (.cells (sample.map B).toArray 27)).heap.size 46 z5 := heap_alloc_new _ _
  have hbl : Below w.heap.size w _ := ((below_alloc w (.cells (key.map B).toArray 22)).alloc (by simp) (.cells (sample.map B).toArray 27)).alloc (by simp; omega) (.cells #[.int .u8 0, .int .u8 0, .int .u8 0, .int .u8 0, .int .u8 0] 46)
  rw [hz1] at hM
  rw [hz2] at hO
  have hs32 : (Try.prog.info? 22).map (·.size) = some (key.map B).length := by rw [List.length_map, hkl]; kernel_rfl
  have hs12 : (Try.prog.info? 32).map (·.size) = some (s4.map B).length := by rw [List.length_map, hs4l]; kernel_rfl
  clear hz1 hz2
  go_enter Try.func21, Try.ntmps21
  go_upto_region 1 with (fail)
  generalize (World.alloc _ _) = W1 at *
  have l0 := hA.lt
  have l1 := hM.lt
  have l2 := hO.lt
  have hbs := hbl.size
  have rA : W1.drew.rangeAt w.heap.size 0 (key.map B) := hA.rng
  have rM : W1.drew.rangeAt (w.heap.size + 1) 4 (s4.map B) := by have h : W1.drew.rangeAt (w.heap.size + 1) 0 (sample.map B) := hM.rng; have h2 := rng_drop h 4; rw [hs4] at h2; exact h2
  have hbM : BS W1 (some ⟨w.heap.size + 1, 0, none⟩) 16 16 sample := hM.whole hsl (by decide)
  have Hlow := Lib.hid (fun (w' : World) (h : BS w' (some ⟨w.heap.size + 1, 0, none⟩) 16 16 sample) => low4_at w' h (by decide))
  have Hst := Lib.hid (fun (w' : World) => stir_any w' hkl hs4l (le4 sample) hle hd)
  obtain ⟨q, hq⟩ : ∃ q, le4 sample = q := ⟨_, rfl⟩
  rw [hq] at Hlow Hst
  have HBM := Lib.hid (RS.drew hbM)
  have HO := Lib.hid hO
  have HB := Lib.hid hbl
  have hu32 := Try.underlying22
  have hu12 := Try.underlying32
  have p2 : ∀ w', (Instr.arrayAt 32 (.slice (some ⟨w.heap.size + 1, 4, none⟩) 12 12)).run Try.prog w' = .ok (.pointer (some ⟨w.heap.size + 1, 4, none⟩)) w' := run_arrAt hu12 _ 12 12 (by decide)
  have sl4 : ∀ w', (Instr.sliceAt 27 (.pointer (some ⟨w.heap.size + 1, 0, none⟩)) (some (.int .i64 4)) none none).run Try.prog w' = .ok (.slice (some ⟨w.heap.size + 1, 4, none⟩) 12 12) w' := by
    exact fun w' => run_sliceFrom Try.underlying27 (by kernel_rfl) (by kernel_rfl) szB (w.heap.size + 1) 4 (by decide) w'
  clear hA hM hO hbl hbM hd hD hq hle hsl hs4
  have Hr := Lib.hid hmd
  clear hmd
  refine wp_region_held_drew (S := fun w' => w'.rangeAt w.heap.size 0 (key.map B) ∧ w'.rangeAt (w.heap.size + 1) 4 (s4.map B)) (by kernel_rfl) ⟨rA, rM⟩ (fun hHeld => ?_)
  refine wpAnyH_take (i := 0) rfl (by kernel_rfl) (by kernel_rfl) (by kernel_rfl) (fun _ _ _ h => h) (yieldsIf_load_mid (by rfl) _ _ rfl _ _ rfl _ _ (fun w h => h.1) hu32 rfl hs32) hHeld ?_
  try simp only [Act.put, List.getElem_toArray, List.getElem_cons_zero, List.setIfInBounds_toArray, List.set_cons_zero, List.set_cons_succ]
  refine wpAnyH_take (i := 1) (v := .slice (some ⟨w.heap.size + 1, 4, none⟩) 12 12) rfl (by kernel_rfl) (by kernel_rfl) (by kernel_rfl) (fun _ _ _ h => h) (Or.inl ⟨by rfl, fun w h => by go_simp⟩) hHeld ?_
  try simp only [Act.put, List.getElem_toArray, List.getElem_cons_succ, List.getElem_cons_zero, List.setIfInBounds_toArray, List.set_cons_zero, List.set_cons_succ]
  refine wpAnyH_take (i := 2) (v := .pointer (some ⟨w.heap.size + 1, 4, none⟩)) rfl (by kernel_rfl) (by kernel_rfl) (by kernel_rfl) (fun _ _ _ h => h) (Or.inl ⟨by rfl, fun w h => by go_simp⟩) hHeld ?_
  try simp only [Act.put, List.getElem_toArray, List.getElem_cons_succ, List.getElem_cons_zero, List.setIfInBounds_toArray, List.set_cons_zero, List.set_cons_succ]
  refine wpAnyH_take (i := 3) rfl (by kernel_rfl) (by kernel_rfl) (by kernel_rfl) (fun _ _ _ h => h) (yieldsIf_load_mid (by rfl) _ _ rfl _ _ rfl _ _ (fun w h => h.2) hu12 rfl hs12) hHeld ?_
  try simp only [Act.put, List.getElem_toArray, List.getElem_cons_succ, List.getElem_cons_zero, List.setIfInBounds_toArray, List.set_cons_zero, List.set_cons_succ]
  refine wpAnyH_take (i := 4) (v := .slice (some ⟨w.heap.size + 1, 0, none⟩) 16 16) rfl (by kernel_rfl) (by kernel_rfl) (by kernel_rfl) (fun _ _ _ h => h) (Or.inl ⟨by rfl, fun w h => by go_simp⟩) hHeld ?_
  try simp only [Act.put, List.getElem_toArray, List.getElem_cons_succ, List.getElem_cons_zero, List.setIfInBounds_toArray, List.set_cons_zero, List.set_cons_succ]
  refine (fun (hk : Hid (∀ (w4 : World) (gt : Nat), SMF W1 w4 gt d → (?P1 : World → Nat → Prop) w4 gt)) => ?main1) (Lib.hid ?rest1)
  case main1 =>
    refine wpAnyH_ready (rs := [5, 7]) (by kernel_rfl) (by simp) (AllReadyH.cons rfl (fun K hK => ?o1) (AllReadyH.cons rfl (fun K hK => ?o2) AllReadyH.nil))
    case o1 =>
      go_simp
      go_at_call 37
      refine (Hlow.out _ HBM.out).mono ?_
      rintro x w2 ⟨rfl, m2, rfl⟩
      have B2 : Below W1.heap.size W1.drew (W1.drew.drewN m2) := below_drewN (Below.refl _ _) m2
      refine hK.out _ _ ⟨rng_bel rA B2 l0, rng_bel rM B2 l1⟩ (fun hHeld => ?_)
      clear hK K
      try simp only [Act.put, List.getElem_toArray, List.getElem_cons_succ, List.getElem_cons_zero, List.setIfInBounds_toArray, List.set_cons_zero, List.set_cons_succ]
      generalize (World.drewN _ _) = w2 at *
      refine wpAnyH_ready (rs := [6, 7]) (by kernel_rfl) (by simp) (AllReadyH.cons rfl (fun K hK => ?oa) (AllReadyH.cons rfl (fun K hK => ?ob) AllReadyH.nil))
      case oa =>
        go_simp
        go_at_call 34
        refine (Hst.out _).mono ?_
        rintro x w3 ⟨rfl, B3⟩
        have b3 := btr (w := W1.drew) B2 B3
        refine hK.out _ _ ⟨rng_bel rA b3 l0, rng_bel rM b3 l1⟩ (fun hHeld => ?_)
        clear hK K
        try simp only [Act.put, List.getElem_toArray, List.getElem_cons_succ, List.getElem_cons_zero, List.setIfInBounds_toArray, List.set_cons_zero, List.set_cons_succ]
        refine wpAnyH_ready (rs := [7]) (by kernel_rfl) (by simp) (AllReadyH.cons rfl (fun K hK => ?_) AllReadyH.nil)
        go_simp
        have b4 := b3.alloc b3.size (.cells #[.int .u8 0, .int .u8 0, .int .u8 0, .int .u8 0, .int .u8 0, .int .u8 0, .int .u8 0, .int .u8 0, .int .u8 0, .int .u8 0, .int .u8 0, .int .u8 0, .int .u8 0, .int .u8 0, .int .u8 0, .int .u8 0, .int .u8 0, .int .u8 0, .int .u8 0, .int .u8 0, .int .u8 0, .int .u8 0, .int .u8 0, .int .u8 0, .int .u8 0, .int .u8 0, .int .u8 0, .int .u8 0, .int .u8 0, .int .u8 0, .int .u8 0, .int .u8 0, .int .u8 0, .int .u8 0, .int .u8 0, .int .u8 0, .int .u8 0, .int .u8 0, .int .u8 0, .int .u8 0, .int .u8 0, .int .u8 0, .int .u8 0, .int .u8 0, .int .u8 0, .int .u8 0, .int .u8 0, .int .u8 0, .int .u8 0, .int .u8 0, .int .u8 0, .int .u8 0, .int .u8 0, .int .u8 0, .int .u8 0, .int .u8 0, .int .u8 0, .int .u8 0, .int .u8 0, .int .u8 0, .int .u8 0, .int .u8 0, .int .u8 0, .int .u8 0] 63)
        have hz : AB (w3.alloc (.cells #[.int .u8 0, .int .u8 0, .int .u8 0, .int .u8 0, .int .u8 0, .int .u8 0, .int .u8 0, .int .u8 0, .int .u8 0, .int .u8 0, .int .u8 0, .int .u8 0, .int .u8 0, .int .u8 0, .int .u8 0, .int .u8 0, .int .u8 0, .int .u8 0, .int .u8 0, .int .u8 0, .int .u8 0, .int .u8 0, .int .u8 0, .int .u8 0, .int .u8 0, .int .u8 0, .int .u8 0, .int .u8 0, .int .u8 0, .int .u8 0, .int .u8 0, .int .u8 0, .int .u8 0, .int .u8 0, .int .u8 0, .int .u8 0, .int .u8 0, .int .u8 0, .int .u8 0, .int .u8 0, .int .u8 0, .int .u8 0, .int .u8 0, .int .u8 0, .int .u8 0, .int .u8 0, .int .u8 0, .int .u8 0, .int .u8 0, .int .u8 0, .int .u8 0, .int .u8 0, .int .u8 0, .int .u8 0, .int .u8 0, .int .u8 0, .int .u8 0, .int .u8 0, .int .u8 0, .int .u8 0, .int .u8 0, .int .u8 0, .int .u8 0, .int .u8 0] 63)) w3.heap.size 63 (List.replicate 64 0) := heap_alloc_new w3 _
        refine hK.out _ _ ⟨rng_bel rA b4 l0, rng_bel rM b4 l1⟩ (fun hHeld => ?_)
        clear hK K
        try simp only [Act.put, List.getElem_toArray, List.getElem_cons_succ, List.getElem_cons_zero, List.setIfInBounds_toArray, List.set_cons_zero, List.set_cons_succ]
        generalize (World.alloc _ _) = w4 at *
        refine wpAnyH_ready (rs := [8]) (by kernel_rfl) (by simp) (AllReadyH.cons rfl (fun K hK => ?_) AllReadyH.nil)
        refine S_storeAB rfl _ _ _ rfl rfl rfl hz i64B (by simp) hdl ?_
        intro w5 hT5 hg5
        have z3 : W1.heap.size ≤ w3.heap.size := b3.size
        have b5 := b4.grown hg5 b4.size (fun k hk => by cases hk; exact z3)
        refine hK.out _ _ ⟨rng_bel rA b5 l0, rng_bel rM b5 l1⟩ (fun hHeld => ?_)
        clear hK K
        refine wpAnyH_done (by kernel_rfl) ?_ _
        try simp only [Act.put, List.getElem_toArray, List.getElem_cons_succ, List.getElem_cons_zero]
        obtain ⟨gt, hgt⟩ : ∃ gt, w3.heap.size = gt := ⟨_, rfl⟩
        rw [hgt] at hT5 z3 ⊢
        exact hk.out w5 gt ⟨hT5, b5, z3⟩
      case ob =>
        go_simp
        have b3 := B2.alloc B2.size (.cells #[.int .u8 0, .int .u8 0, .int .u8 0, .int .u8 0, .int .u8 0, .int .u8 0, .int .u8 0, .int .u8 0, .int .u8 0, .int .u8 0, .int .u8 0, .int .u8 0, .int .u8 0, .int .u8 0, .int .u8 0, .int .u8 0, .int .u8 0, .int .u8 0, .int .u8 0, .int .u8 0, .int .u8 0, .int .u8 0, .int .u8 0, .int .u8 0, .int .u8 0, .int .u8 0, .int .u8 0, .int .u8 0, .int .u8 0, .int .u8 0, .int .u8 0, .int .u8 0, .int .u8 0, .int .u8 0, .int .u8 0, .int .u8 0, .int .u8 0, .int .u8 0, .int .u8 0, .int .u8 0, .int .u8 0, .int .u8 0, .int .u8 0, .int .u8 0, .int .u8 0, .int .u8 0, .int .u8 0, .int .u8 0, .int .u8 0, .int .u8 0, .int .u8 0, .int .u8 0, .int .u8 0, .int .u8 0, .int .u8 0, .int .u8 0, .int .u8 0, .int .u8 0, .int .u8 0, .int .u8 0, .int .u8 0, .int .u8 0, .int .u8 0, .int .u8 0] 63)
        have hz : AB (w2.alloc (.cells #[.int .u8 0, .int .u8 0, .int .u8 0, .int .u8 0, .int .u8 0, .int .u8 0, .int .u8 0, .int .u8 0, .int .u8 0, .int .u8 0, .int .u8 0, .int .u8 0, .int .u8 0, .int .u8 0, .int .u8 0, .int .u8 0, .int .u8 0, .int .u8 0, .int .u8 0, .int .u8 0, .int .u8 0, .int .u8 0, .int .u8 0, .int .u8 0, .int .u8 0, .int .u8 0, .int .u8 0, .int .u8 0, .int .u8 0, .int .u8 0, .int .u8 0, .int .u8 0, .int .u8 0, .int .u8 0, .int .u8 0, .int .u8 0, .int .u8 0, .int .u8 0, .int .u8 0, .int .u8 0, .int .u8 0, .int .u8 0, .int .u8 0, .int .u8 0, .int .u8 0, .int .u8 0, .int .u8 0, .int .u8 0, .int .u8 0, .int .u8 0, .int .u8 0, .int .u8 0, .int .u8 0, .int .u8 0, .int .u8 0, .int .u8 0, .int .u8 0, .int .u8 0, .int .u8 0, .int .u8 0, .int .u8 0, .int .u8 0, .int .u8 0, .int .u8 0] 63)) w2.heap.size 63 (List.replicate 64 0) := heap_alloc_new w2 _
        refine hK.out _ _ ⟨rng_bel rA b3 l0, rng_bel rM b3 l1⟩ (fun hHeld => ?_)
        clear hK K
        try simp only [Act.put, List.getElem_toArray, List.getElem_cons_succ, List.getElem_cons_zero, List.setIfInBounds_toArray, List.set_cons_zero, List.set_cons_succ]
        generalize (World.alloc _ _) = w3 at *
        refine wpAnyH_ready (rs := [6]) (by kernel_rfl) (by simp) (AllReadyH.cons rfl (fun K hK => ?_) AllReadyH.nil)
        go_simp
        go_at_call 34
        refine (Hst.out _).mono ?_
        rintro x w4 ⟨rfl, B4⟩
        have b4 := btr (w := W1.drew) b3 B4
        have hz4 := hz.bl B4 hz.lt
        refine hK.out _ _ ⟨rng_bel rA b4 l0, rng_bel rM b4 l1⟩ (fun hHeld => ?_)
        clear hK K
        try simp only [Act.put, List.getElem_toArray, List.getElem_cons_succ, List.getElem_cons_zero, List.setIfInBounds_toArray, List.set_cons_zero, List.set_cons_succ]
        refine wpAnyH_ready (rs := [8]) (by kernel_rfl) (by simp) (AllReadyH.cons rfl (fun K hK => ?_) AllReadyH.nil)
        refine S_storeAB rfl _ _ _ rfl rfl rfl hz4 i64B (by simp) hdl ?_
        intro w5 hT5 hg5
        have z3 : W1.heap.size ≤ w2.heap.size := B2.size
        have b5 := b4.grown hg5 b4.size (fun k hk => by cases hk; exact z3)
        refine hK.out _ _ ⟨rng_bel rA b5 l0, rng_bel rM b5 l1⟩ (fun hHeld => ?_)
        clear hK K
        refine wpAnyH_done (by kernel_rfl) ?_ _
        try simp only [Act.put, List.getElem_toArray, List.getElem_cons_succ, List.getElem_cons_zero]
        exact hk.out w5 w2.heap.size ⟨hT5, b5, z3⟩
    case o2 =>
      go_simp
      have b1 := below_alloc W1.drew (.cells #[.int .u8 0, .int .u8 0, .int .u8 0, .int .u8 0, .int .u8 0, .int .u8 0, .int .u8 0, .int .u8 0, .int .u8 0, .int .u8 0, .int .u8 0, .int .u8 0, .int .u8 0, .int .u8 0, .int .u8 0, .int .u8 0, .int .u8 0, .int .u8 0, .int .u8 0, .int .u8 0, .int .u8 0, .int .u8 0, .int .u8 0, .int .u8 0, .int .u8 0, .int .u8 0, .int .u8 0, .int .u8 0, .int .u8 0, .int .u8 0, .int .u8 0, .int .u8 0, .int .u8 0, .int .u8 0, .int .u8 0, .int .u8 0, .int .u8 0, .int .u8 0, .int .u8 0, .int .u8 0, .int .u8 0, .int .u8 0, .int .u8 0, .int .u8 0, .int .u8 0, .int .u8 0, .int .u8 0, .int .u8 0, .int .u8 0, .int .u8 0, .int .u8 0, .int .u8 0, .int .u8 0, .int .u8 0, .int .u8 0, .int .u8 0, .int .u8 0, .int .u8 0, .int .u8 0, .int .u8 0, .int .u8 0, .int .u8 0, .int .u8 0, .int .u8 0] 63)
      have hz : AB (W1.drew.alloc (.cells #[.int .u8 0, .int .u8 0, .int .u8 0, .int .u8 0, .int .u8 0, .int .u8 0, .int .u8 0, .int .u8 0, .int .u8 0, .int .u8 0, .int .u8 0, .int .u8 0, .int .u8 0, .int .u8 0, .int .u8 0, .int .u8 0, .int .u8 0, .int .u8 0, .int .u8 0, .int .u8 0, .int .u8 0, .int .u8 0, .int .u8 0, .int .u8 0, .int .u8 0, .int .u8 0, .int .u8 0, .int .u8 0, .int .u8 0, .int .u8 0, .int .u8 0, .int .u8 0, .int .u8 0, .int .u8 0, .int .u8 0, .int .u8 0, .int .u8 0, .int .u8 0, .int .u8 0, .int .u8 0, .int .u8 0, .int .u8 0, .int .u8 0, .int .u8 0, .int .u8 0, .int .u8 0, .int .u8 0, .int .u8 0, .int .u8 0, .int .u8 0, .int .u8 0, .int .u8 0, .int .u8 0, .int .u8 0, .int .u8 0, .int .u8 0, .int .u8 0, .int .u8 0, .int .u8 0, .int .u8 0, .int .u8 0, .int .u8 0, .int .u8 0, .int .u8 0] 63)) W1.heap.size 63 (List.replicate 64 0) := heap_alloc_new W1.drew _
      have hb1 := RS.alloc HBM.out (.cells #[.int .u8 0, .int .u8 0, .int .u8 0, .int .u8 0, .int .u8 0, .int .u8 0, .int .u8 0, .int .u8 0, .int .u8 0, .int .u8 0, .int .u8 0, .int .u8 0, .int .u8 0, .int .u8 0, .int .u8 0, .int .u8 0, .int .u8 0, .int .u8 0, .int .u8 0, .int .u8 0, .int .u8 0, .int .u8 0, .int .u8 0, .int .u8 0, .int .u8 0, .int .u8 0, .int .u8 0, .int .u8 0, .int .u8 0, .int .u8 0, .int .u8 0, .int .u8 0, .int .u8 0, .int .u8 0, .int .u8 0, .int .u8 0, .int .u8 0, .int .u8 0, .int .u8 0, .int .u8 0, .int .u8 0, .int .u8 0, .int .u8 0, .int .u8 0, .int .u8 0, .int .u8 0, .int .u8 0, .int .u8 0, .int .u8 0, .int .u8 0, .int .u8 0, .int .u8 0, .int .u8 0, .int .u8 0, .int .u8 0, .int .u8 0, .int .u8 0, .int .u8 0, .int .u8 0, .int .u8 0, .int .u8 0, .int .u8 0, .int .u8 0, .int .u8 0] 63)
      refine hK.out _ _ ⟨rng_bel rA b1 l0, rng_bel rM b1 l1⟩ (fun hHeld => ?_)
      clear hK K
      try simp only [Act.put, List.getElem_toArray, List.getElem_cons_succ, List.getElem_cons_zero, List.setIfInBounds_toArray, List.set_cons_zero, List.set_cons_succ]
      obtain ⟨w2, hw2⟩ : ∃ w2, W1.drew.alloc (.cells #[.int .u8 0, .int .u8 0, .int .u8 0, .int .u8 0, .int .u8 0, .int .u8 0, .int .u8 0, .int .u8 0, .int .u8 0, .int .u8 0, .int .u8 0, .int .u8 0, .int .u8 0, .int .u8 0, .int .u8 0, .int .u8 0, .int .u8 0, .int .u8 0, .int .u8 0, .int .u8 0, .int .u8 0, .int .u8 0, .int .u8 0, .int .u8 0, .int .u8 0, .int .u8 0, .int .u8 0, .int .u8 0, .int .u8 0, .int .u8 0, .int .u8 0, .int .u8 0, .int .u8 0, .int .u8 0, .int .u8 0, .int .u8 0, .int .u8 0, .int .u8 0, .int .u8 0, .int .u8 0, .int .u8 0, .int .u8 0, .int .u8 0, .int .u8 0, .int .u8 0, .int .u8 0, .int .u8 0, .int .u8 0, .int .u8 0, .int .u8 0, .int .u8 0, .int .u8 0, .int .u8 0, .int .u8 0, .int .u8 0, .int .u8 0, .int .u8 0, .int .u8 0, .int .u8 0, .int .u8 0, .int .u8 0, .int .u8 0, .int .u8 0, .int .u8 0] 63) = w2 := ⟨_, rfl⟩
      rw [hw2] at b1 hz hb1
      refine wpAnyH_ready (rs := [5]) (by kernel_rfl) (by simp) (AllReadyH.cons rfl (fun K hK => ?_) AllReadyH.nil)
      go_simp
      go_at_call 37
      have Hl := Hlow.out _ hb1
      rw [← hw2] at Hl
      refine Hl.mono ?_
      have e2 : (W1.alloc (.cells #[.int .u8 0, .int .u8 0, .int .u8 0, .int .u8 0, .int .u8 0, .int .u8 0, .int .u8 0, .int .u8 0, .int .u8 0, .int .u8 0, .int .u8 0, .int .u8 0, .int .u8 0, .int .u8 0, .int .u8 0, .int .u8 0, .int .u8 0, .int .u8 0, .int .u8 0, .int .u8 0, .int .u8 0, .int .u8 0, .int .u8 0, .int .u8 0, .int .u8 0, .int .u8 0, .int .u8 0, .int .u8 0, .int .u8 0, .int .u8 0, .int .u8 0, .int .u8 0, .int .u8 0, .int .u8 0, .int .u8 0, .int .u8 0, .int .u8 0, .int .u8 0, .int .u8 0, .int .u8 0, .int .u8 0, .int .u8 0, .int .u8 0, .int .u8 0, .int .u8 0, .int .u8 0, .int .u8 0, .int .u8 0, .int .u8 0, .int .u8 0, .int .u8 0, .int .u8 0, .int .u8 0, .int .u8 0, .int .u8 0, .int .u8 0, .int .u8 0, .int .u8 0, .int .u8 0, .int .u8 0, .int .u8 0, .int .u8 0, .int .u8 0, .int .u8 0] 63)).drew = w2 := hw2
      rw [show (W1.drew.alloc (.cells #[.int .u8 0, .int .u8 0, .int .u8 0, .int .u8 0, .int .u8 0, .int .u8 0, .int .u8 0, .int .u8 0, .int .u8 0, .int .u8 0, .int .u8 0, .int .u8 0, .int .u8 0, .int .u8 0, .int .u8 0, .int .u8 0, .int .u8 0, .int .u8 0, .int .u8 0, .int .u8 0, .int .u8 0, .int .u8 0, .int .u8 0, .int .u8 0, .int .u8 0, .int .u8 0, .int .u8 0, .int .u8 0, .int .u8 0, .int .u8 0, .int .u8 0, .int .u8 0, .int .u8 0, .int .u8 0, .int .u8 0, .int .u8 0, .int .u8 0, .int .u8 0, .int .u8 0, .int .u8 0, .int .u8 0, .int .u8 0, .int .u8 0, .int .u8 0, .int .u8 0, .int .u8 0, .int .u8 0, .int .u8 0, .int .u8 0, .int .u8 0, .int .u8 0, .int .u8 0, .int .u8 0, .int .u8 0, .int .u8 0, .int .u8 0, .int .u8 0, .int .u8 0, .int .u8 0, .int .u8 0, .int .u8 0, .int .u8 0, .int .u8 0, .int .u8 0] 63)) = w2 from hw2]
      rintro x w3 ⟨rfl, m2, rfl⟩
      have B3 : Below w2.heap.size w2 (w2.drewN m2) := below_drewN (Below.refl _ _) m2
      have b3 := btr (w := W1.drew) b1 B3
      have hz3 := hz.bl B3 hz.lt
      refine hK.out _ _ ⟨rng_bel rA b3 l0, rng_bel rM b3 l1⟩ (fun hHeld => ?_)
      clear hK K
      try simp only [Act.put, List.getElem_toArray, List.getElem_cons_succ, List.getElem_cons_zero, List.setIfInBounds_toArray, List.set_cons_zero, List.set_cons_succ]
      generalize (World.drewN _ _) = w3 at *
      refine wpAnyH_ready (rs := [6]) (by kernel_rfl) (by simp) (AllReadyH.cons rfl (fun K hK => ?_) AllReadyH.nil)
      go_simp
      go_at_call 34
      refine (Hst.out _).mono ?_
      rintro x w4 ⟨rfl, B4⟩
      have b4 := btr (w := W1.drew) b3 B4
      have hz4 := hz3.bl B4 hz3.lt
      refine hK.out _ _ ⟨rng_bel rA b4 l0, rng_bel rM b4 l1⟩ (fun hHeld => ?_)
      clear hK K
      try simp only [Act.put, List.getElem_toArray, List.getElem_cons_succ, List.getElem_cons_zero, List.setIfInBounds_toArray, List.set_cons_zero, List.set_cons_succ]
      refine wpAnyH_ready (rs := [8]) (by kernel_rfl) (by simp) (AllReadyH.cons rfl (fun K hK => ?_) AllReadyH.nil)
      refine S_storeAB rfl _ _ _ rfl rfl rfl hz4 i64B (by simp) hdl ?_
      intro w5 hT5 hg5
      have b5 := b4.grown hg5 b4.size (fun k hk => by cases hk; exact Nat.le_refl _)
      refine hK.out _ _ ⟨rng_bel rA b5 l0, rng_bel rM b5 l1⟩ (fun hHeld => ?_)
      clear hK K
      refine wpAnyH_done (by kernel_rfl) ?_ _
      try simp only [Act.put, List.getElem_toArray, List.getElem_cons_succ, List.getElem_cons_zero]
      exact hk.out w5 W1.heap.size ⟨hT5, b5, Nat.le_refl _⟩
  case rest1 =>
    intro w5 gt hF
    have b5 : Below W1.heap.size W1 w5 := below_undrew hF.bl
    have hb5 := HB.out.trans (b5.mono hbs)
    have hO5 := HO.out.bl b5 l2
    have hr5 : w5.rangeAt gt 0 ((d.take 5).map B) := rng_take hF.ab.rng 5
    rw [Hr.out] at hr5
    have hs5 : (Try.prog.info? 46).map (·.size) = some (m.map B).length := by rw [List.length_map, hml]; exact i5
    have hi2 := Lib.hid (show (Try.prog.info? 46).map (·.size) = some (m.map B).toArray.size by rw [List.size_toArray]; exact hs5)
    have hu5 := Try.underlying46
    have p3 : ∀ w', (Instr.arrayAt 46 (.slice (some ⟨gt, 0, none⟩) 5 64)).run Try.prog w' = .ok (.pointer (some ⟨gt, 0, none⟩)) w' := run_arrAt hu5 _ 5 64 (by decide)
    have HB5 := Lib.hid hb5
    clear hHeld Hlow Hst HBM HO HB p2 sl4 hs32 hs12 hF b5 hb5 rA rM
    go_wp2_with (first
      | (refine wpList_load_mid rfl _ _ rfl _ _ rfl (m.map B) _ hr5 hu5 rfl hs5 ?_)
      | (refine L_storeAB rfl _ _ _ rfl rfl rfl hO5 i5 (by simp [z5]) hml ?_; intro w6 hT6 hg6))
    refine bodyPost_ret_by (results_cell_row rfl _ _ _ _ _ _ _ rfl hT6 Try.underlying46 rfl hi2.out) rfl ⟨rfl, ?_⟩
    exact HB5.out.grown hg6 HB5.out.size (fun k hk => by cases hk; omega)
end Go.Proofs.Ytlncnjcbgfeaoaa
