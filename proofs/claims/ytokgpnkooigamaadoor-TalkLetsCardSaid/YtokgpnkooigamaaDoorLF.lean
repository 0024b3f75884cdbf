/- ref15.Few: a message that is not too long. -/
import Derived.Test.YtokgpnkooigamaaDoorLE
set_option maxRecDepth 100000
set_option linter.unusedVariables false
namespace Go.Proofs.YtokgpnkooigamaaDoor
open Go.RowKit
theorem iMsg15 : (Tryd.prog.info? 35).map (·.size) = some 16 := by kernel_rfl
def fewM (m : MG) : MG := { m with name := m.name.take 40, reason := m.reason.take 80, vers := m.vers.take 12 }
/-- a message that is read, of any length -/
structure MW (w : World) (m : MG) (s : ML) : Prop where
  b : MB m
  nm : BS w s.nm.a s.nm.n s.nm.c m.name
  rs : BS w s.rs.a s.rs.n s.rs.c m.reason
  vs : RS w 1 s.vs.a s.vs.n s.vs.c (US m.vers)
theorem MR.mw {w : World} {m : MG} {s : ML} (h : MR w m s) : MW w m s := ⟨h.b, h.nm, h.rs, h.vs⟩
theorem MW.bel {w w' : World} {N : Nat} {m : MG} {s : ML} (h : MW w m s) (hb : Below N w w') (hN : w.heap.size ≤ N) : MW w' m s :=
  ⟨h.b, h.nm.below hb hN, h.rs.below hb hN, h.vs.below hb hN⟩
theorem MW.n1 {w : World} {m : MG} {s : ML} (h : MW w m s) : m.name.length = s.nm.n := BS.len h.nm
theorem MW.n2 {w : World} {m : MG} {s : ML} (h : MW w m s) : m.reason.length = s.rs.n := BS.len h.rs
set_option maxHeartbeats 4000000 in
theorem few_any (w : World) (m : MG) (s : ML) (hm : MW w m s) :
    Calls Tryd.prog 11 #[.agg (mgc m s).toArray] w fun e w' => ∃ s', e = .returned (.agg (mgc (fewM m) s').toArray) ∧ MO w' w.heap.size (fewM m) s' ∧ Below w.heap.size w w' := by
  obtain ⟨k, hk⟩ : ∃ k, w.heap.size = k := ⟨_, rfl⟩
  have hA := heap_alloc2a w (.cells (mgc m s).toArray 35) (.cells #[.int .u64 0, .int .u64 0, .int .u64 0, .slice none 0 0, .int .u8 0, .int .u8 0, .int .u64 0, .int .u64 0, .int .u64 0, .int .u64 0, .bool false, .int .u64 0, .slice none 0 0, .int .u64 0, .int .u64 0, .slice none 0 0] 35)
  have hZ := heap_alloc2b w (.cells (mgc m s).toArray 35) (.cells #[.int .u64 0, .int .u64 0, .int .u64 0, .slice none 0 0, .int .u8 0, .int .u8 0, .int .u64 0, .int .u64 0, .int .u64 0, .int .u64 0, .bool false, .int .u64 0, .slice none 0 0, .int .u64 0, .int .u64 0, .slice none 0 0] 35)
  have hb : Below w.heap.size w ((w.alloc (.cells (mgc m s).toArray 35)).alloc (.cells #[.int .u64 0, .int .u64 0, .int .u64 0, .slice none 0 0, .int .u8 0, .int .u8 0, .int .u64 0, .int .u64 0, .int .u64 0, .int .u64 0, .bool false, .int .u64 0, .slice none 0 0, .int .u64 0, .int .u64 0, .slice none 0 0] 35)) := (below_alloc w _).alloc (by simp) _
  have HmB := Lib.hid hm.b
  obtain ⟨S, hS⟩ : ∃ S : ML → List Value, (fun s' => mgc (fewM m) s') = S := ⟨_, rfl⟩
  have hS' : ∀ s', mgc (fewM m) s' = S s' := fun s' => by rw [← hS]
  unfold mgc u64 SA.v at hA hZ hb
  obtain ⟨W1, hW1⟩ : ∃ x, (w.alloc (.cells ([.int .u64 (m.kind : Int), .int .u64 (m.id : Int), .int .u64 (m.alias : Int), .slice s.nm.a s.nm.n s.nm.c, .int .u8 (m.prio : Int), .int .u8 (m.ord : Int), .int .u64 (m.sg : Int), .int .u64 (m.so : Int), .int .u64 (m.eg : Int), .int .u64 (m.eo : Int), .bool m.some, .int .u64 (m.code : Int), .slice s.rs.a s.rs.n s.rs.c, .int .u64 (m.n : Int), .int .u64 (m.ver : Int), .slice s.vs.a s.vs.n s.vs.c] : List Value).toArray 35)).alloc (.cells #[.int .u64 0, .int .u64 0, .int .u64 0, .slice none 0 0, .int .u8 0, .int .u8 0, .int .u64 0, .int .u64 0, .int .u64 0, .int .u64 0, .bool false, .int .u64 0, .slice none 0 0, .int .u64 0, .int .u64 0, .slice none 0 0] 35) = x := ⟨_, rfl⟩
  rw [hW1, hk] at hA hZ
  rw [hW1] at hb
  have HA := Lib.hid (show CR W1 k 35 [.int .u64 (m.kind : Int), .int .u64 (m.id : Int), .int .u64 (m.alias : Int), .slice s.nm.a s.nm.n s.nm.c, .int .u8 (m.prio : Int), .int .u8 (m.ord : Int), .int .u64 (m.sg : Int), .int .u64 (m.so : Int), .int .u64 (m.eg : Int), .int .u64 (m.eo : Int), .bool m.some, .int .u64 (m.code : Int), .slice s.rs.a s.rs.n s.rs.c, .int .u64 (m.n : Int), .int .u64 (m.ver : Int), .slice s.vs.a s.vs.n s.vs.c] from hA)
  have HZ := Lib.hid (show CR W1 (k + 1) 35 [.int .u64 0, .int .u64 0, .int .u64 0, .slice none 0 0, .int .u8 0, .int .u8 0, .int .u64 0, .int .u64 0, .int .u64 0, .int .u64 0, .bool false, .int .u64 0, .slice none 0 0, .int .u64 0, .int .u64 0, .slice none 0 0] from hZ)
  have hm1 := hm.bel hb (Nat.le_refl _)
  have HM1 := Lib.hid hm1
  have HB := Lib.hid hb
  have Hk := Lib.hid hk
  have HS := Lib.hid hS'
  have c3 : W1.cell? ⟨k, 3, none⟩ = some (.slice s.nm.a s.nm.n s.nm.c) := HA.out.at_ 3
  have c12 : W1.cell? ⟨k, 12, none⟩ = some (.slice s.rs.a s.rs.n s.rs.c) := HA.out.at_ 12
  have c15 : W1.cell? ⟨k, 15, none⟩ = some (.slice s.vs.a s.vs.n s.vs.c) := HA.out.at_ 15
  have HC := Lib.hid (⟨c3, c12, c15⟩ : W1.cell? ⟨k, 3, none⟩ = some (.slice s.nm.a s.nm.n s.nm.c) ∧ W1.cell? ⟨k, 12, none⟩ = some (.slice s.rs.a s.rs.n s.rs.c) ∧ W1.cell? ⟨k, 15, none⟩ = some (.slice s.vs.a s.vs.n s.vs.c))
  have HP := Lib.hid (fun (x : World) (b : Below W1.heap.size W1 x) => (⟨(HA.out.bel b).at_ 3, (HA.out.bel b).at_ 12, (HA.out.bel b).at_ 15⟩ : x.cell? ⟨k, 3, none⟩ = some (.slice s.nm.a s.nm.n s.nm.c) ∧ x.cell? ⟨k, 12, none⟩ = some (.slice s.rs.a s.rs.n s.rs.c) ∧ x.cell? ⟨k, 15, none⟩ = some (.slice s.vs.a s.vs.n s.vs.c)))
  have HMw := Lib.hid hm
  have HNL := Lib.hid hm.n1
  have HRL := Lib.hid hm.n2
  clear hA hZ hb hm1 hm hS hS' c3 c12 c15
  unfold mgc u64 SA.v
  go_enter Tryd.func11, Tryd.ntmps11
  go_upto_region 1 with (fail)
  obtain ⟨V, hV⟩ : ∃ V, W1.drew = V := ⟨_, rfl⟩
  have bV : Below W1.heap.size W1 V := by rw [← hV]; exact (Below.refl _ _).drew
  have HBV := Lib.hid bV
  clear bV hW1 hk
  refine wp_region_U 7 (S := fun x => x.cell? ⟨k, 3, none⟩ = some (.slice s.nm.a s.nm.n s.nm.c) ∧ x.cell? ⟨k, 12, none⟩ = some (.slice s.rs.a s.rs.n s.rs.c) ∧ x.cell? ⟨k, 15, none⟩ = some (.slice s.vs.a s.vs.n s.vs.c)) (by kernel_rfl) HC.out (fun hHeld => ?_)
  rw [hV] at hHeld ⊢
  refine wpAnyU_take (i := 0) (v := .pointer (some ⟨k, 3, none⟩)) rfl (by kernel_rfl) (by kernel_rfl) (by kernel_rfl) (by kernel_rfl) rfl (by kernel_rfl) (fun _ _ _ h => h) (Or.inl ⟨by rfl, fun w h => by go_simp⟩) hHeld ?_
  try simp only [Act.put, List.getElem_toArray, List.getElem_cons_zero, List.setIfInBounds_toArray, List.set_cons_zero, List.set_cons_succ]
  refine wpAnyU_take (i := 1) (v := .slice s.nm.a s.nm.n s.nm.c) rfl (by kernel_rfl) (by kernel_rfl) (by kernel_rfl) (by kernel_rfl) rfl (by kernel_rfl) (fun _ _ _ h => h) (Or.inl ⟨by rfl, fun w h => by go_simp⟩) hHeld ?_
  try simp only [Act.put, List.getElem_toArray, List.getElem_cons_succ, List.getElem_cons_zero, List.setIfInBounds_toArray, List.set_cons_zero, List.set_cons_succ]
  refine wpAnyU_take (i := 3) (v := .pointer (some ⟨k, 12, none⟩)) rfl (by kernel_rfl) (by kernel_rfl) (by kernel_rfl) (by kernel_rfl) rfl (by kernel_rfl) (fun _ _ _ h => h) (Or.inl ⟨by rfl, fun w h => by go_simp⟩) hHeld ?_
  try simp only [Act.put, List.getElem_toArray, List.getElem_cons_succ, List.getElem_cons_zero, List.setIfInBounds_toArray, List.set_cons_zero, List.set_cons_succ]
  refine wpAnyU_take (i := 4) (v := .slice s.rs.a s.rs.n s.rs.c) rfl (by kernel_rfl) (by kernel_rfl) (by kernel_rfl) (by kernel_rfl) rfl (by kernel_rfl) (fun _ _ _ h => h) (Or.inl ⟨by rfl, fun w h => by go_simp⟩) hHeld ?_
  try simp only [Act.put, List.getElem_toArray, List.getElem_cons_succ, List.getElem_cons_zero, List.setIfInBounds_toArray, List.set_cons_zero, List.set_cons_succ]
  refine wpAnyU_ready (rs := [2]) (by kernel_rfl) (by simp) (AllReadyU.cons rfl (fun K hK => ?_) AllReadyU.nil)
  go_simp
  go_at_call 22
  refine (cut_any _ (HM1.out.bel HBV.out (Nat.le_refl _)).nm 40 (by omega) (by omega)).mono ?_
  rintro x w2 ⟨a2, c2, rfl, o2, B2⟩
  have HB2 := Lib.hid (btr HBV.out B2)
  refine hK.out _ _ (HP.out _ HB2.out) (fun hHeld => ?_)
  clear hK K
  try simp only [Act.put, List.getElem_toArray, List.getElem_cons_succ, List.getElem_cons_zero, List.setIfInBounds_toArray, List.set_cons_zero, List.set_cons_succ]
  refine wpAnyU_take (i := 6) (v := .pointer (some ⟨k, 3, none⟩)) rfl (by kernel_rfl) (by kernel_rfl) (by kernel_rfl) (by kernel_rfl) rfl (by kernel_rfl) (fun _ _ _ h => h) (Or.inl ⟨by rfl, fun w h => by go_simp⟩) hHeld ?_
  try simp only [Act.put, List.getElem_toArray, List.getElem_cons_succ, List.getElem_cons_zero, List.setIfInBounds_toArray, List.set_cons_zero, List.set_cons_succ]
  refine wpAnyU_ready (rs := [5]) (by kernel_rfl) (by simp) (AllReadyU.cons rfl (fun K hK => ?_) AllReadyU.nil)
  go_simp
  go_at_call 22
  refine (cut_any _ (HM1.out.bel HB2.out (Nat.le_refl _)).rs 80 (by omega) (by omega)).mono ?_
  rintro x w3 ⟨a3, c3, rfl, o3, B3⟩
  have HB3 := Lib.hid (btr HB2.out B3)
  refine hK.out _ _ (HP.out _ HB3.out) (fun hHeld => ?_)
  clear hK K
  try simp only [Act.put, List.getElem_toArray, List.getElem_cons_succ, List.getElem_cons_zero, List.setIfInBounds_toArray, List.set_cons_zero, List.set_cons_succ]
  have hr4 := HA.out.bel HB3.out
  have f3 := hr4.fr 3
  have f12 := hr4.fr 12
  have d12 := hHeld.2.1
  have d3 := hHeld.1
  refine wpAnyU_ready (rs := [7]) (by kernel_rfl) (by simp) (AllReadyU.consT rfl (by kernel_rfl) (fun K hK => ?_) AllReadyU.nil)
  go_simp
  refine hK.out _ _ ?_
  clear hK K
  try simp only [Act.put, List.getElem_toArray, List.getElem_cons_succ, List.getElem_cons_zero, List.setIfInBounds_toArray, List.set_cons_zero, List.set_cons_succ]
  refine wpAnyU_ready (rs := [8]) (by kernel_rfl) (by simp) (AllReadyU.consT rfl (by kernel_rfl) (fun K hK => ?_) AllReadyU.nil)
  go_simp
  refine hK.out _ _ ?_
  clear hK K
  try simp only [Act.put, List.getElem_toArray, List.getElem_cons_succ, List.getElem_cons_zero, List.setIfInBounds_toArray, List.set_cons_zero, List.set_cons_succ]
  refine wpAnyU_ready (rs := [9]) (by kernel_rfl) (by simp) (AllReadyU.consT rfl (by kernel_rfl) (fun K hK => ?_) AllReadyU.nil)
  go_simp
  refine hK.out _ _ ?_
  clear hK K
  try simp only [Act.put, List.getElem_toArray, List.getElem_cons_succ, List.getElem_cons_zero, List.setIfInBounds_toArray, List.set_cons_zero, List.set_cons_succ]
  refine wpAnyU_done (by kernel_rfl) ?_ _
  try simp only [Act.put, List.getElem_toArray, List.getElem_cons_succ, List.getElem_cons_zero]
  obtain ⟨n2, hn2⟩ : ∃ x, min s.nm.n 40 = x := ⟨_, rfl⟩
  obtain ⟨n3, hn3⟩ : ∃ x, min s.rs.n 80 = x := ⟨_, rfl⟩
  rw [show (40 : Int).toNat = 40 from rfl, hn2] at o2
  rw [show (80 : Int).toNat = 80 from rfl, hn3] at o3
  rw [hn2, hn3]
  have HN2 := Lib.hid hn2
  have HN3 := Lib.hid hn3
  have hF := (hr4.set 3 (.slice a2 n2 c2)).set 12 (.slice a3 n3 c3)
  have hZ4 := ((HZ.out.bel HB3.out).keep (w' := w3.setCell ⟨k, 3, none⟩ (.slice a2 n2 c2)) (Below.heap_setCell _ _ _ _ (fun h => by simp only at h; omega))).keep (w' := (w3.setCell ⟨k, 3, none⟩ (.slice a2 n2 c2)).setCell ⟨k, 12, none⟩ (.slice a3 n3 c3)) (Below.heap_setCell _ _ _ _ (fun h => by simp only at h; omega))
  have hkb := (KB.set hr4 (o := 3) (by decide) (by decide) (.slice a2 n2 c2)).trans (KB.set (hr4.set 3 (.slice a2 n2 c2)) (o := 12) (by decide) (by decide) (.slice a3 n3 c3))
  have hb3 := ((below_then HB.out HB3.out HB.out.size).setCell (p := ⟨k, 3, none⟩) (by simp only; have := Hk.out; omega) (.slice a2 n2 c2)).setCell (p := ⟨k, 12, none⟩) (by simp only; have := Hk.out; omega) (.slice a3 n3 c3)
  have hsz : w.heap.size ≤ W1.heap.size := HB.out.size
  have hsz2 := HB2.out.size
  have hsz3 := HB3.out.size
  have hszV := HBV.out.size
  have q2 := ((o2.below B3 (Nat.le_refl _)).mono (base' := w.heap.size) (by omega)).kb hkb (.inl rfl)
  have q3 := (o3.mono (base' := w.heap.size) (by omega)).kb hkb (.inl rfl)
  have q4 := RS.below HMw.out.vs hb3 (Nat.le_refl _)
  obtain ⟨W5, hW5⟩ : ∃ x, (w3.setCell ⟨k, 3, none⟩ (.slice a2 n2 c2)).setCell ⟨k, 12, none⟩ (.slice a3 n3 c3) = x := ⟨_, rfl⟩
  rw [hW5] at hF hZ4 hb3 q2 q3 q4 ⊢
  have hbe := below_alloc W5 (.cells #[] 23)
  have c15 : (W5.alloc (.cells #[] 23)).cell? ⟨k, 15, none⟩ = some (.slice s.vs.a s.vs.n s.vs.c) := (hF.bel hbe).at_ 15
  have HOe := Lib.hid (OW_empty W5 W5.heap.size 23 1 (Nat.le_refl _))
  have HQ4 := Lib.hid (RS.alloc q4 (.cells #[] 23))
  obtain ⟨n4, hn4⟩ : ∃ x, min s.vs.n 12 = x := ⟨_, rfl⟩
  have h4le : n4 ≤ s.vs.n := by omega
  have h412 : n4 ≤ 12 := by omega
  have HN4 := Lib.hid hn4
  have HF5 := Lib.hid hF
  have HZ5 := Lib.hid hZ4
  have HB5 := Lib.hid hb3
  have HQ2 := Lib.hid q2
  have HQ3 := Lib.hid q3
  have HBE := Lib.hid hbe
  have hk5 : k < W5.heap.size := hF.lt
  have HW5 := Lib.hid hk5
  have hk15 : k + 1 < W5.heap.size := hZ4.lt
  have HW51 := Lib.hid hk15
  clear hF hZ4 hb3 hkb hr4 f3 f12 d3 d12 o2 o3 B2 B3 HB2 HB3 HBV HP HC HA HZ HM1 HB hW5 hHeld hsz2 hsz3 hszV hV q2 q3 q4 hbe hn2 hn3 hn4 HMw hk5 hk15
  go_upto_region 3 with (first
    | (refine L_minI rfl s.vs.n 12 n4 HN4.out rfl rfl (by rfl) ?_)
    | (refine L_slice_h t64 HQ4.out n4 _ _ rfl rfl .i64 _ rfl rfl rfl h4le ?_; intro hr; have HR := Lib.hid hr; clear hr)
    | (at_builtin; refine L_append t64 HOe.out HR.out _ _ rfl rfl rfl rfl (by omega) (by unfold maxLen; omega) (by simp) ?_; intro a4 c4 w6 o4 g4; have hr6 := (HF5.out.bel HBE.out).keep (g4.block k (by have := HW5.out; simp; omega) (fun he => by simp at he; have := HW5.out; omega)); have d15 : w6.cell? ⟨k, 15, none⟩ = some (.slice s.vs.a s.vs.n s.vs.c) := hr6.at_ 15; have f15 := hr6.fr 15; have HR6 := Lib.hid hr6; have HO4 := Lib.hid o4; have HG4 := Lib.hid g4; clear hr6 o4 g4))
  have hF := HR6.out.set 15 (.slice a4 n4 c4)
  have hZ6 := ((HZ5.out.bel HBE.out).keep (w' := w6) (HG4.out.block (k + 1) (by have := HW51.out; simp; omega) (fun he => by simp at he; have := HW51.out; omega))).keep (w' := w6.setCell ⟨k, 15, none⟩ (.slice a4 n4 c4)) (Below.heap_setCell _ _ _ _ (fun h => by simp only at h; omega))
  have hkb := KB.set HR6.out (o := 15) (by decide) (by decide) (.slice a4 n4 c4)
  have hb6 : Below W5.heap.size W5 w6 := below_own HBE.out HOe.out HG4.out (Nat.le_refl _) HBE.out.size
  have hkw : w.heap.size ≤ k := by have := Hk.out; omega
  have hb7 := (below_then HB5.out hb6 HB5.out.size).setCell (p := ⟨k, 15, none⟩) hkw (.slice a4 n4 c4)
  have ho4 : OW w6 W5.heap.size 23 1 a4 n4 c4 (US (m.vers.take 12)) := by
    have h1 := HO4.out
    rw [Nat.zero_add, List.nil_append, Nat.mul_one] at h1
    have h2 : (US m.vers).take n4 = US (m.vers.take 12) := by
      have hl := h1.rs.len
      unfold US at hl ⊢
      rw [← List.map_take, ← HN4.out]
      have hvl : (m.vers.map u64).length = s.vs.n := by have := HQ4.out.len; simpa [US] using this
      rw [List.length_map] at hvl
      rw [← hvl, Nat.min_comm, ← List.take_take, List.take_length]
    rw [← h2]; exact h1
  have hw5 : w.heap.size ≤ W5.heap.size := HB5.out.size
  have hnm : OW w6 w.heap.size 5 1 a2 n2 c2 ((m.name.take 40).map B) := by
    have h1 := (HQ2.out.below hb6 (Nat.le_refl _))
    have hl : m.name.length = s.nm.n := HNL.out
    rw [← HN2.out, ← hl, Nat.min_comm, ← List.take_take, ← List.map_take] at h1
    rw [← HN2.out, ← hl, Nat.min_comm]
    have h3 : ((m.name.map B).take m.name.length) = m.name.map B := List.take_of_length_le (by simp)
    simpa [List.map_take] using h1
  have hrs : OW w6 w.heap.size 5 1 a3 n3 c3 ((m.reason.take 80).map B) := by
    have h1 := (HQ3.out.below hb6 (Nat.le_refl _))
    have hl : m.reason.length = s.rs.n := HRL.out
    rw [← HN3.out, ← hl, Nat.min_comm, ← List.take_take, ← List.map_take] at h1
    rw [← HN3.out, ← hl, Nat.min_comm]
    simpa [List.map_take] using h1
  have hmo : MO (w6.setCell ⟨k, 15, none⟩ (.slice a4 n4 c4)) w.heap.size (fewM m) ⟨⟨a2, n2, c2⟩, ⟨a3, n3, c3⟩, ⟨a4, n4, c4⟩⟩ :=
    MO.kb (w := w6) ⟨⟨HmB.out.kind, HmB.out.id, HmB.out.alias, HmB.out.prio, HmB.out.ord, HmB.out.sg, HmB.out.so, HmB.out.eg, HmB.out.eo, HmB.out.code, HmB.out.n, HmB.out.ver⟩, hnm, hrs, ho4.mono hw5, by have := HN2.out; simp only; omega, by have := HN3.out; simp only; omega, by simp only; omega⟩ hkb
  obtain ⟨W7, hW7⟩ : ∃ x, w6.setCell ⟨k, 15, none⟩ (.slice a4 n4 c4) = x := ⟨_, rfl⟩
  rw [hW7] at hF hZ6 hb7 hmo ⊢
  have Hrg := Lib.hid (show W7.rangeAt k 0 [.int .u64 (m.kind : Int), .int .u64 (m.id : Int), .int .u64 (m.alias : Int), .slice a2 n2 c2, .int .u8 (m.prio : Int), .int .u8 (m.ord : Int), .int .u64 (m.sg : Int), .int .u64 (m.so : Int), .int .u64 (m.eg : Int), .int .u64 (m.eo : Int), .bool m.some, .int .u64 (m.code : Int), .slice a3 n3 c3, .int .u64 (m.n : Int), .int .u64 (m.ver : Int), .slice a4 n4 c4] from hF.rng)
  have HZ7 := Lib.hid hZ6
  have HB7 := Lib.hid hb7
  have HMO := Lib.hid hmo
  have HS7 := Lib.hid (HS.out ⟨⟨a2, n2, c2⟩, ⟨a3, n3, c3⟩, ⟨a4, n4, c4⟩⟩)
  clear hF hZ6 hb7 hmo hkb hb6 ho4 hnm hrs hW7 HR6 HO4 HG4 HQ2 HQ3 HQ4 HOe HF5 HZ5 HB5 HBE c15
  go_wp2_with (first
    | (refine wpList_load_mid rfl _ _ rfl _ _ rfl _ _ Hrg.out Tryd.underlying35 rfl iMsg15 ?_)
    | (refine L_storeRow (old := [.int .u64 0, .int .u64 0, .int .u64 0, .slice none 0 0, .int .u8 0, .int .u8 0, .int .u64 0, .int .u64 0, .int .u64 0, .int .u64 0, .bool false, .int .u64 0, .slice none 0 0, .int .u64 0, .int .u64 0, .slice none 0 0]) (new := [.int .u64 (m.kind : Int), .int .u64 (m.id : Int), .int .u64 (m.alias : Int), .slice a2 n2 c2, .int .u8 (m.prio : Int), .int .u8 (m.ord : Int), .int .u64 (m.sg : Int), .int .u64 (m.so : Int), .int .u64 (m.eg : Int), .int .u64 (m.eo : Int), .bool m.some, .int .u64 (m.code : Int), .slice a3 n3 c3, .int .u64 (m.n : Int), .int .u64 (m.ver : Int), .slice a4 n4 c4]) rfl 35 _ _ rfl rfl rfl HZ7.out iMsg15 rfl rfl (by simp [Value.oneCell']) ?_; intro W8 hz hg3))
  refine bodyPost_ret_by (results_cell_row rfl _ _ _ _ _ _ _ rfl hz Tryd.underlying35 rfl iMsg15) rfl ?_
  refine ⟨⟨⟨a2, n2, c2⟩, ⟨a3, n3, c3⟩, ⟨a4, n4, c4⟩⟩, rfl, HMO.out.kb (fun b cur e fr he hb => hg3.block b (Array.getElem?_eq_some_iff.1 hb).1 (fun h => by
    injection h with h
    have h5 := HZ7.out
    unfold CR at h5
    rw [h, h5] at hb
    injection hb with hb
    injection hb with hb1 hb2
    rcases he with rfl | rfl <;> cases hb2)), HB7.out.grown hg3 HB7.out.size (fun j hj => by cases hj; have := Hk.out; omega)⟩
end Go.Proofs.YtokgpnkooigamaaDoor
