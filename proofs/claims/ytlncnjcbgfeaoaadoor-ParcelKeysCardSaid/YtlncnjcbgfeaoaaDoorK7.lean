/- ref06.Next, First, Draw. -/
import Derived.Test.YtlncnjcbgfeaoaaDoorK5
set_option maxRecDepth 100000
set_option linter.unusedVariables false
namespace Go.Proofs.YtlncnjcbgfeaoaaDoor
open Go.RowKit Go.Joins
theorem refNext_any (w : World) {a0 : Option Addr} {n0 c0 : Nat} {sec d : List UInt8} (hs : BS w a0 n0 c0 sec) (h0 : n0 ≤ 549755813888) (hD : LB sec [113, 117, 105, 99, 32, 107, 117] 32 d) :
    Calls Tryd.prog 16 #[.slice a0 n0 c0] w fun e w' => ∃ a c, e = .returned (.slice a 32 c) ∧ BS w' a 32 c d ∧ Below w.heap.size w w' := by
  go_enter Tryd.func16, Tryd.ntmps16
  go_wp2_with (go_at_call 30; refine (refLabel_32 _ _ hs h0 (by decide) hD).mono ?_; rintro e w2 ⟨a2, c2, rfl, hb2, B2, -⟩; have Hb := Lib.hid hb2; clear hb2)
  go_ret
  exact ⟨a2, c2, rfl, Hb.out, B2⟩
set_option maxHeartbeats 2000000 in
theorem refFirst_any (w : World) {a0 : Option Addr} {n0 c0 : Nat} {nm x a b : List UInt8} (hn : BS w a0 n0 c0 nm) (h0 : n0 ≤ 549755813888) (hF : FS nm x a b) :
    Calls Tryd.prog 11 #[.slice a0 n0 c0] w fun e w' => ∃ a1 c1 a2 c2, e = .returned (.tuple #[.slice a1 32 c1, .slice a2 32 c2]) ∧ BS w' a1 32 c1 a ∧ BS w' a2 32 c2 b ∧ Below w.heap.size w w' := by
  have v1 := run_convert_bytes_const_at (P := Tryd.prog) w 23 5 #[.int .u8 56, .int .u8 118, .int .u8 44, .int .u8 247, .int .u8 245, .int .u8 89, .int .u8 52, .int .u8 179, .int .u8 77, .int .u8 23, .int .u8 154, .int .u8 230, .int .u8 164, .int .u8 200, .int .u8 12, .int .u8 173, .int .u8 204, .int .u8 187, .int .u8 127, .int .u8 10] 20 20 w.heap.size rfl Tryd.underlying23 Tryd.underlying5
  go_enter Tryd.func11, Tryd.ntmps11
  go_upto_region 2 with (first
    | (go_at_call 29; refine (refMac_any _ (BS_lit w firstS _ _ rfl 20 rfl (by decide) rfl) (RS.alloc hn _) (by decide) (by omega)).mono ?_; rw [hF.hx]; rintro e w2 ⟨a2, c2, rfl, o2, B2⟩))
  have hx2 : BS w2 a2 32 c2 x := o2.rs
  have hbw : Below w.heap.size w w2 := (below_alloc w _).trans (B2.mono (below_alloc w _).size)
  clear o2 v1
  go_upto_region 3 with (go_at_call 30; refine (refLabel_32 _ _ hx2 (by omega) (by decide) hF.ha).mono ?_; rintro e w3 ⟨a3, c3, rfl, hb3, B3, -⟩)
  have hx3 := RS.below hx2 B3 (Nat.le_refl _)
  go_upto_region 4 with (go_at_call 30; refine (refLabel_32 _ _ hx3 (by omega) (by decide) hF.hb).mono ?_; rintro e w4 ⟨a4, c4, rfl, hb4, B4, -⟩)
  have Hb3 := Lib.hid (RS.below hb3 B4 (Nat.le_refl _))
  have Hb4 := Lib.hid hb4
  clear hb3 hb4 hx2 hx3
  go_wp2
  go_ret2
  exact ⟨a3, c3, a4, c4, rfl, Hb3.out, Hb4.out, btrans hbw (btrans B3 B4)⟩
set_option maxHeartbeats 4000000 in
theorem refDraw_any (w : World) {a0 : Option Addr} {n0 c0 : Nat} {sec a b c : List UInt8} (hs : BS w a0 n0 c0 sec) (h0 : n0 ≤ 549755813888) (hD : KS sec a b c) :
    Calls Tryd.prog 13 #[.slice a0 n0 c0] w fun e w' => e = .returned (.agg ((a ++ b ++ c).map B).toArray) ∧ Below w.heap.size w w' := by
  have hZ := AB_zeros33 w rfl
  have hb := below_alloc w (.cells Tryd.zeroCells33 33)
  have hs1 := RS.alloc hs (.cells Tryd.zeroCells33 33)
  have hbt := built3 Tryd.underlying33 rz (by kernel_rfl) hD.ha.len hD.hb.len hD.hc.len
  have hkl := hD.len
  have hia := Lib.hid (len32 hD.ha.len)
  have hic := Lib.hid (len32 hD.hc.len)
  have hib := Lib.hid (show (Tryd.prog.info? 31).map (·.size) = some (b.map B).length by rw [List.length_map, hD.hb.len]; exact i12)
  obtain ⟨D, hDe⟩ : ∃ D, a ++ b ++ c = D := ⟨_, rfl⟩
  rw [hDe] at hbt hkl ⊢
  have Hi2 := Lib.hid (show (Tryd.prog.info? 33).map (·.size) = some (D.map B).toArray.size by rw [List.size_toArray, List.length_map, hkl]; exact r76)
  have Hbt := Lib.hid hbt
  clear hDe hs hbt
  go_enter Tryd.func13, Tryd.ntmps13
  go_upto_region 1 with (fail)
  generalize (World.alloc _ _) = W1 at *
  go_upto_region 2 with (go_at_call 30; refine (refLabel_32 _ _ hs1 h0 (by decide) hD.ha).mono ?_; rintro e w2 ⟨a2, c2, rfl, hb2, B2, hn2⟩)
  have hs2 := RS.below hs1 B2 (Nat.le_refl _)
  go_upto_region 3 with (go_at_call 30; refine (refLabel_12 _ _ hs2 h0 (by decide) hD.hb).mono ?_; rintro e w3 ⟨a3, c3, rfl, hb3, B3, hn3⟩)
  have hs3 := RS.below hs2 B3 (Nat.le_refl _)
  go_upto_region 4 with (go_at_call 30; refine (refLabel_32 _ _ hs3 h0 (by decide) hD.hc).mono ?_; rintro e w4 ⟨a4, c4, rfl, hb4, B4, hn4⟩)
  have B34 := btrans B3 B4
  have B24 := btrans B2 B34
  have hb2' : BS w4 a2 32 c2 a := RS.below hb2 B34 (Nat.le_refl _)
  have hb3' : BS w4 a3 12 c3 b := RS.below hb3 B4 (Nat.le_refl _)
  obtain ⟨x2, y2, rfl, -⟩ := hb2'.at_ (by omega)
  obtain ⟨x3, y3, rfl, -⟩ := hb3'.at_ (by omega)
  obtain ⟨x4, y4, rfl, -⟩ := hb4.at_ (by omega)
  have r2 := hb2'.range
  have r3 := hb3'.range
  have r4 := hb4.range
  have l2 : x2 < w4.heap.size := RS.block_lt hb2' rfl (by omega) (by omega)
  have l3 : x3 < w4.heap.size := RS.block_lt hb3' rfl (by omega) (by omega)
  have l4 : x4 < w4.heap.size := RS.block_lt hb4 rfl (by omega) (by omega)
  have m2 : W1.heap.size ≤ x2 := hn2 _ rfl
  have m3 : w2.heap.size ≤ x3 := hn3 _ rfl
  have m4 : w3.heap.size ≤ x4 := hn4 _ rfl
  have z2 := B2.size
  have z3 := B3.size
  have hg := hZ.lt
  have hZ4 : AB w4.drew w.heap.size 33 (List.replicate 76 0) := (hZ.bel B24 hZ.lt : AB w4 w.heap.size 33 (List.replicate 76 0))
  have hu32 := Tryd.underlying22
  have hu12 := Tryd.underlying31
  have s2 := hia.out
  have s3 := hib.out
  have s4 := hic.out
  have hbw := hb.trans (B24.mono hb.size)
  have p2 : ∀ w', (Instr.arrayAt 22 (.slice (some ⟨x2, y2, none⟩) 32 c2)).run Tryd.prog w' = .ok (.pointer (some ⟨x2, y2, none⟩)) w' := run_arrayAt hu32 _ 32 _ (Nat.le_refl _)
  have p3 : ∀ w', (Instr.arrayAt 31 (.slice (some ⟨x3, y3, none⟩) 12 c3)).run Tryd.prog w' = .ok (.pointer (some ⟨x3, y3, none⟩)) w' := run_arrayAt hu12 _ 12 _ (Nat.le_refl _)
  have p4 : ∀ w', (Instr.arrayAt 22 (.slice (some ⟨x4, y4, none⟩) 32 c4)).run Tryd.prog w' = .ok (.pointer (some ⟨x4, y4, none⟩)) w' := run_arrayAt hu32 _ 32 _ (Nat.le_refl _)
  clear hb2 hb3 hb4 hb2' hb3' hn2 hn3 hn4 hs1 hs2 hs3 B2 B3 B4 B34 B24
  refine wp_region_noPanic ?_
  refine wp_region_held_drew (S := fun w' => w'.rangeAt x2 y2 (a.map B) ∧ w'.rangeAt x3 y3 (b.map B) ∧ w'.rangeAt x4 y4 (c.map B)) (by kernel_rfl) ⟨r2, r3, r4⟩ (fun hHeld => ?_)
  refine wpAnyH_take (i := 0) (v := .slice (some ⟨x2, y2, none⟩) 32 c2) rfl (by kernel_rfl) (by kernel_rfl) (by kernel_rfl) (fun _ _ _ h => h) (Or.inl ⟨by rfl, fun w h => by go_simp⟩) hHeld ?_
  try simp only [Act.put, List.getElem_toArray, List.getElem_cons_zero, List.setIfInBounds_toArray, List.set_cons_zero, List.set_cons_succ]
  refine wpAnyH_take (i := 1) (v := .pointer (some ⟨x2, y2, none⟩)) rfl (by kernel_rfl) (by kernel_rfl) (by kernel_rfl) (fun _ _ _ h => h) (Or.inl ⟨by rfl, fun w h => by go_simp⟩) hHeld ?_
  try simp only [Act.put, List.getElem_toArray, List.getElem_cons_succ, List.getElem_cons_zero, List.setIfInBounds_toArray, List.set_cons_zero, List.set_cons_succ]
  refine wpAnyH_take (i := 2) rfl (by kernel_rfl) (by kernel_rfl) (by kernel_rfl) (fun _ _ _ h => h) (yieldsIf_load_mid (by rfl) _ _ rfl _ _ rfl _ _ (fun w h => h.1) hu32 rfl s2) hHeld ?_
  try simp only [Act.put, List.getElem_toArray, List.getElem_cons_succ, List.getElem_cons_zero, List.setIfInBounds_toArray, List.set_cons_zero, List.set_cons_succ]
  refine wpAnyH_take (i := 3) (v := .slice (some ⟨x3, y3, none⟩) 12 c3) rfl (by kernel_rfl) (by kernel_rfl) (by kernel_rfl) (fun _ _ _ h => h) (Or.inl ⟨by rfl, fun w h => by go_simp⟩) hHeld ?_
  try simp only [Act.put, List.getElem_toArray, List.getElem_cons_succ, List.getElem_cons_zero, List.setIfInBounds_toArray, List.set_cons_zero, List.set_cons_succ]
  refine wpAnyH_take (i := 4) (v := .pointer (some ⟨x3, y3, none⟩)) rfl (by kernel_rfl) (by kernel_rfl) (by kernel_rfl) (fun _ _ _ h => h) (Or.inl ⟨by rfl, fun w h => by go_simp⟩) hHeld ?_
  try simp only [Act.put, List.getElem_toArray, List.getElem_cons_succ, List.getElem_cons_zero, List.setIfInBounds_toArray, List.set_cons_zero, List.set_cons_succ]
  refine wpAnyH_take (i := 5) rfl (by kernel_rfl) (by kernel_rfl) (by kernel_rfl) (fun _ _ _ h => h) (yieldsIf_load_mid (by rfl) _ _ rfl _ _ rfl _ _ (fun w h => h.2.1) hu12 rfl s3) hHeld ?_
  try simp only [Act.put, List.getElem_toArray, List.getElem_cons_succ, List.getElem_cons_zero, List.setIfInBounds_toArray, List.set_cons_zero, List.set_cons_succ]
  refine wpAnyH_take (i := 6) (v := .slice (some ⟨x4, y4, none⟩) 32 c4) rfl (by kernel_rfl) (by kernel_rfl) (by kernel_rfl) (fun _ _ _ h => h) (Or.inl ⟨by rfl, fun w h => by go_simp⟩) hHeld ?_
  try simp only [Act.put, List.getElem_toArray, List.getElem_cons_succ, List.getElem_cons_zero, List.setIfInBounds_toArray, List.set_cons_zero, List.set_cons_succ]
  refine wpAnyH_take (i := 7) (v := .pointer (some ⟨x4, y4, none⟩)) rfl (by kernel_rfl) (by kernel_rfl) (by kernel_rfl) (fun _ _ _ h => h) (Or.inl ⟨by rfl, fun w h => by go_simp⟩) hHeld ?_
  try simp only [Act.put, List.getElem_toArray, List.getElem_cons_succ, List.getElem_cons_zero, List.setIfInBounds_toArray, List.set_cons_zero, List.set_cons_succ]
  refine wpAnyH_take (i := 8) rfl (by kernel_rfl) (by kernel_rfl) (by kernel_rfl) (fun _ _ _ h => h) (yieldsIf_load_mid (by rfl) _ _ rfl _ _ rfl _ _ (fun w h => h.2.2) hu32 rfl s4) hHeld ?_
  try simp only [Act.put, List.getElem_toArray, List.getElem_cons_succ, List.getElem_cons_zero, List.setIfInBounds_toArray, List.set_cons_zero, List.set_cons_succ]
  refine wpAnyH_ready (rs := [9]) (by kernel_rfl) (by simp) (AllReadyH.cons rfl (fun K hK => ?_) AllReadyH.nil)
  refine S_build rfl _ _ rfl (by simp only [List.map_toArray, List.map_cons, List.map_nil]; exact Hbt.out) ?_
  refine hK.out _ _ hHeld (fun hHeld => ?_)
  clear hK K
  try simp only [Act.put, List.getElem_toArray, List.getElem_cons_succ, List.getElem_cons_zero, List.setIfInBounds_toArray, List.set_cons_zero, List.set_cons_succ]
  refine wpAnyH_ready (rs := [10]) (by kernel_rfl) (by simp) (AllReadyH.cons rfl (fun K hK => ?_) AllReadyH.nil)
  refine S_storeA rfl _ _ _ rfl rfl rfl hZ4 r76 (by simp) hkl ?_
  intro w7 hA7 hg7
  refine hK.out _ _ ⟨?_, ?_, ?_⟩ (fun hHeld => ?_)
  · exact fun j v hv => (World.cell?_of_block (a := ⟨x2, y2 + j, none⟩) (hg7.block x2 l2 (by simp; omega))).trans (r2 j v hv)
  · exact fun j v hv => (World.cell?_of_block (a := ⟨x3, y3 + j, none⟩) (hg7.block x3 l3 (by simp; omega))).trans (r3 j v hv)
  · exact fun j v hv => (World.cell?_of_block (a := ⟨x4, y4 + j, none⟩) (hg7.block x4 l4 (by simp; omega))).trans (r4 j v hv)
  clear hK K
  refine wpAnyH_done (by kernel_rfl) ?_ _
  refine NoPanic.normal ?_
  try simp only [Act.put, List.getElem_toArray, List.getElem_cons_succ, List.getElem_cons_zero]
  go_wp2
  have hbd : Below w.heap.size w w4.drew := ⟨hbw.os, hbw.tape, hbw.output, hbw.size, hbw.block⟩
  exact bodyPost_ret_by (results_cell_row rfl _ _ _ _ _ _ _ rfl hA7 Tryd.underlying33 rfl Hi2.out) rfl ⟨rfl, hbd.grown hg7 hbd.size (fun k hk => by cases hk; exact Nat.le_refl _)⟩
end Go.Proofs.YtlncnjcbgfeaoaaDoor
