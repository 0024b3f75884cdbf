/- talk.copyOf. -/
import Derived.Test.YtokgpnkooigamaaDoorUS
import Derived.Test.YtokgpnkooigamaaDoorTC
import Derived.Test.YtokgpnkooigamaaDoorTF
set_option maxRecDepth 100000
set_option linter.unusedVariables false
namespace Go.Proofs.YtokgpnkooigamaaDoor
open Go.RowKit
/-- a message whose slices are the call's own -/
structure MO (w : World) (base : Nat) (m : MG) (s : ML) : Prop where
  b : MB m
  nm : OW w base 5 1 s.nm.a s.nm.n s.nm.c (m.name.map B)
  rs : OW w base 5 1 s.rs.a s.rs.n s.rs.c (m.reason.map B)
  vs : OW w base 23 1 s.vs.a s.vs.n s.vs.c (US m.vers)
  l1 : s.nm.n ≤ 1099511627776
  l2 : s.rs.n ≤ 1099511627776
  l3 : s.vs.n ≤ 1099511627776
theorem MO.mr {w : World} {base : Nat} {m : MG} {s : ML} (h : MO w base m s) : MR w m s := ⟨h.b, h.nm.rs, h.rs.rs, h.vs.rs, h.l1, h.l2, h.l3⟩
theorem MO.bel {w w' : World} {N base : Nat} {m : MG} {s : ML} (h : MO w base m s) (hb : Below N w w') (hN : w.heap.size ≤ N) : MO w' base m s :=
  ⟨h.b, h.nm.below hb hN, h.rs.below hb hN, h.vs.below hb hN, h.l1, h.l2, h.l3⟩
theorem MO.mono {w : World} {base base' : Nat} {m : MG} {s : ML} (h : MO w base m s) (hb : base' ≤ base) : MO w base' m s :=
  ⟨h.b, h.nm.mono hb, h.rs.mono hb, h.vs.mono hb, h.l1, h.l2, h.l3⟩
/-- blocks of bytes and of numbers stay -/
def KB (w w' : World) : Prop := ∀ (b : Nat) (cur : Array Value) (e : TypeId) (fr : Nat × Nat), (e = 5 ∨ e = 23) → w.heap[b]? = some (.cells cur e fr) → w'.heap[b]? = w.heap[b]?
theorem OW.kb {w w' : World} {base : Nat} {e : TypeId} {z : Nat} {a : Option Addr} {n c : Nat} {vs : List Value} (h : OW w base e z a n c vs) (hk : KB w w') (he : e = 5 ∨ e = 23) : OW w' base e z a n c vs := by
  rcases h.shape with ⟨rfl, rfl, rfl, rfl⟩ | ⟨g, cur, rfl, h1, h2, h3, h4, h5, h6, h7⟩
  · exact OW_nil _ _ _ _
  · exact OW.mk' g cur h1 (by rw [hk g cur e (0, 0) he h3]; exact h3) h4 h5 h6 h7 h.2
theorem MO.kb {w w' : World} {base : Nat} {m : MG} {s : ML} (h : MO w base m s) (hk : KB w w') : MO w' base m s :=
  ⟨h.b, h.nm.kb hk (.inl rfl), h.rs.kb hk (.inl rfl), h.vs.kb hk (.inr rfl), h.l1, h.l2, h.l3⟩
theorem KB.set {w : World} {g o : Nat} {t : TypeId} {l : List Value} (h : CR w g t l) (h1 : t ≠ 5) (h2 : t ≠ 23) (v : Value) : KB w (w.setCell ⟨g, o, none⟩ v) := fun b cur e fr he hb => by
  refine Below.heap_setCell _ _ _ _ (fun hk => ?_)
  unfold CR at h
  simp only at hk
  rw [hk, h] at hb
  injection hb with hb
  injection hb with hb1 hb2
  rcases he with rfl | rfl
  · exact h1 hb2
  · exact h2 hb2
theorem KB.bel {w w' : World} (h : Below w.heap.size w w') : KB w w' := fun b cur e fr _ hb => h.block b (Array.getElem?_eq_some_iff.1 hb).1
theorem KB.trans {w w1 w2 : World} (h : KB w w1) (k : KB w1 w2) : KB w w2 := fun b cur e fr he hb => by
  have h1 := h b cur e fr he hb
  rw [k b cur e fr he (by rw [h1]; exact hb), h1]
/-- the cells of a zero message -/
def zmsg : List Value := [.int .u64 0, .int .u64 0, .int .u64 0, .slice none 0 0, .int .u8 0, .int .u8 0, .int .u64 0, .int .u64 0, .int .u64 0, .int .u64 0, .bool false, .int .u64 0, .slice none 0 0, .int .u64 0, .int .u64 0, .slice none 0 0]
set_option maxHeartbeats 4000000 in
theorem uclone_any (w : World) {a : Option Addr} {n c : Nat} {vs : List Value} (hx : RS w 1 a n c vs) (hn : n ≤ 1099511627776) :
    Calls Tryd.prog 37 #[.slice a n c] w fun e w' => ∃ a' c', e = .returned (.slice a' n c') ∧ OW w' w.heap.size 23 1 a' n c' vs ∧ Below w.heap.size w w' := by
  cases a with
  | none =>
    obtain ⟨rfl, rfl, rfl⟩ := hx.nil_inv
    have hq := fun w1 => Lib.run_eql_slice_nil (P := Tryd.prog) w1 22 23 none 0 0 0 0 Tryd.underlying22
    go_enter Tryd.func37, Tryd.ntmps37
    go_wp2
    go_ret
    exact ⟨none, 0, rfl, OW_nil _ _ _ _, Below.refl _ _⟩
  | some ad =>
    have hq := fun w1 => Lib.run_eql_slice_nil (P := Tryd.prog) w1 22 23 (some ad) n c 0 0 Tryd.underlying22
    have hO := OW_empty w w.heap.size 23 1 (Nat.le_refl _)
    go_enter Tryd.func37, Tryd.ntmps37
    go_wp2_with (at_builtin; refine L_append t64 hO (hx.alloc _) _ _ rfl rfl rfl rfl (by omega) (by unfold maxLen; omega) (by simp) ?_; intro a' c' w' h1 h2)
    go_ret
    exact ⟨a', c', rfl, by simpa using h1, below_own (below_alloc w _) hO h2 (Nat.le_refl _) (by simp)⟩
set_option maxHeartbeats 4000000 in
theorem copyOf_any (w : World) (m : MG) (s : ML) (hm : MR w m s) :
    Calls Tryd.prog 21 #[.agg (mgc m s).toArray] w fun e w' => ∃ s', e = .returned (.agg (mgc m s').toArray) ∧ MO w' w.heap.size m s' ∧ Below w.heap.size w w' := by
  obtain ⟨k, hk⟩ : ∃ k, w.heap.size = k := ⟨_, rfl⟩
  have hA := heap_alloc2a w (.cells (mgc m s).toArray 31) (.cells #[.int .u64 0, .int .u64 0, .int .u64 0, .slice none 0 0, .int .u8 0, .int .u8 0, .int .u64 0, .int .u64 0, .int .u64 0, .int .u64 0, .bool false, .int .u64 0, .slice none 0 0, .int .u64 0, .int .u64 0, .slice none 0 0] 31)
  have hZ := heap_alloc2b w (.cells (mgc m s).toArray 31) (.cells #[.int .u64 0, .int .u64 0, .int .u64 0, .slice none 0 0, .int .u8 0, .int .u8 0, .int .u64 0, .int .u64 0, .int .u64 0, .int .u64 0, .bool false, .int .u64 0, .slice none 0 0, .int .u64 0, .int .u64 0, .slice none 0 0] 31)
  have hb : Below w.heap.size w ((w.alloc (.cells (mgc m s).toArray 31)).alloc (.cells #[.int .u64 0, .int .u64 0, .int .u64 0, .slice none 0 0, .int .u8 0, .int .u8 0, .int .u64 0, .int .u64 0, .int .u64 0, .int .u64 0, .bool false, .int .u64 0, .slice none 0 0, .int .u64 0, .int .u64 0, .slice none 0 0] 31)) := (below_alloc w _).alloc (by simp) _
  have hl1 := hm.l1
  have hl2 := hm.l2
  have hl3 := hm.l3
  have HmB := Lib.hid hm.b
  obtain ⟨S, hS⟩ : ∃ S : ML → List Value, (fun s' => mgc m s') = S := ⟨_, rfl⟩
  have hS' : ∀ s', mgc m s' = S s' := fun s' => by rw [← hS]
  unfold mgc u64 SA.v at hA hZ hb hS'
  obtain ⟨W1, hW1⟩ : ∃ x, (w.alloc (.cells ([.int .u64 (m.kind : Int), .int .u64 (m.id : Int), .int .u64 (m.alias : Int), .slice s.nm.a s.nm.n s.nm.c, .int .u8 (m.prio : Int), .int .u8 (m.ord : Int), .int .u64 (m.sg : Int), .int .u64 (m.so : Int), .int .u64 (m.eg : Int), .int .u64 (m.eo : Int), .bool m.some, .int .u64 (m.code : Int), .slice s.rs.a s.rs.n s.rs.c, .int .u64 (m.n : Int), .int .u64 (m.ver : Int), .slice s.vs.a s.vs.n s.vs.c] : List Value).toArray 31)).alloc (.cells #[.int .u64 0, .int .u64 0, .int .u64 0, .slice none 0 0, .int .u8 0, .int .u8 0, .int .u64 0, .int .u64 0, .int .u64 0, .int .u64 0, .bool false, .int .u64 0, .slice none 0 0, .int .u64 0, .int .u64 0, .slice none 0 0] 31) = x := ⟨_, rfl⟩
  rw [hW1, hk] at hA hZ
  rw [hW1] at hb
  have HA := Lib.hid (show CR W1 k 31 [.int .u64 (m.kind : Int), .int .u64 (m.id : Int), .int .u64 (m.alias : Int), .slice s.nm.a s.nm.n s.nm.c, .int .u8 (m.prio : Int), .int .u8 (m.ord : Int), .int .u64 (m.sg : Int), .int .u64 (m.so : Int), .int .u64 (m.eg : Int), .int .u64 (m.eo : Int), .bool m.some, .int .u64 (m.code : Int), .slice s.rs.a s.rs.n s.rs.c, .int .u64 (m.n : Int), .int .u64 (m.ver : Int), .slice s.vs.a s.vs.n s.vs.c] from hA)
  have HZ := Lib.hid (show CR W1 (k + 1) 31 [.int .u64 0, .int .u64 0, .int .u64 0, .slice none 0 0, .int .u8 0, .int .u8 0, .int .u64 0, .int .u64 0, .int .u64 0, .int .u64 0, .bool false, .int .u64 0, .slice none 0 0, .int .u64 0, .int .u64 0, .slice none 0 0] from hZ)
  have hm1 := hm.bel hb (Nat.le_refl _)
  have HM1 := Lib.hid hm1
  have HB := Lib.hid hb
  have Hk := Lib.hid hk
  have HS := Lib.hid hS'
  have c3 : W1.cell? ⟨k, 3, none⟩ = some (.slice s.nm.a s.nm.n s.nm.c) := HA.out.at_ 3
  have c12 : W1.cell? ⟨k, 12, none⟩ = some (.slice s.rs.a s.rs.n s.rs.c) := HA.out.at_ 12
  have c15 : W1.cell? ⟨k, 15, none⟩ = some (.slice s.vs.a s.vs.n s.vs.c) := HA.out.at_ 15
  have HC := Lib.hid (⟨c3, c12, c15⟩ : W1.cell? ⟨k, 3, none⟩ = some (.slice s.nm.a s.nm.n s.nm.c) ∧ W1.cell? ⟨k, 12, none⟩ = some (.slice s.rs.a s.rs.n s.rs.c) ∧ W1.cell? ⟨k, 15, none⟩ = some (.slice s.vs.a s.vs.n s.vs.c))
  have HP := Lib.hid (fun (x : World) (b : Below W1.heap.size W1 x) => (⟨(HA.out.bel b).at_ 3, (HA.out.bel b).at_ 12, (HA.out.bel b).at_ 15⟩ : x.cell? ⟨k, 3, none⟩ = some (.slice s.nm.a s.nm.n s.nm.c) ∧ x.cell? ⟨k, 12, none⟩ = some (.slice s.rs.a s.rs.n s.rs.c) ∧ x.cell? ⟨k, 15, none⟩ = some (.slice s.vs.a s.vs.n s.vs.c)))
  clear hA hZ hb hm1 hm hS hS' c3 c12 c15
  unfold mgc u64 SA.v
  go_enter Tryd.func21, Tryd.ntmps21
  go_upto_region 1 with (fail)
  obtain ⟨V, hV⟩ : ∃ V, W1.drew = V := ⟨_, rfl⟩
  have bV : Below W1.heap.size W1 V := by rw [← hV]; exact (Below.refl _ _).drew
  have HBV := Lib.hid bV
  clear bV hW1 hk
  refine wp_region_U 10 (S := fun x => x.cell? ⟨k, 3, none⟩ = some (.slice s.nm.a s.nm.n s.nm.c) ∧ x.cell? ⟨k, 12, none⟩ = some (.slice s.rs.a s.rs.n s.rs.c) ∧ x.cell? ⟨k, 15, none⟩ = some (.slice s.vs.a s.vs.n s.vs.c)) (by kernel_rfl) HC.out (fun hHeld => ?_)
  rw [hV] at hHeld ⊢
  refine wpAnyU_take (i := 0) (v := .pointer (some ⟨k, 3, none⟩)) rfl (by kernel_rfl) (by kernel_rfl) (by kernel_rfl) (by kernel_rfl) rfl (by kernel_rfl) (fun _ _ _ h => h) (Or.inl ⟨by rfl, fun w h => by go_simp⟩) hHeld ?_
  try simp only [Act.put, List.getElem_toArray, List.getElem_cons_zero, List.setIfInBounds_toArray, List.set_cons_zero, List.set_cons_succ]
  refine wpAnyU_take (i := 1) (v := .slice s.nm.a s.nm.n s.nm.c) rfl (by kernel_rfl) (by kernel_rfl) (by kernel_rfl) (by kernel_rfl) rfl (by kernel_rfl) (fun _ _ _ h => h) (Or.inl ⟨by rfl, fun w h => by go_simp⟩) hHeld ?_
  try simp only [Act.put, List.getElem_toArray, List.getElem_cons_succ, List.getElem_cons_zero, List.setIfInBounds_toArray, List.set_cons_zero, List.set_cons_succ]
  refine wpAnyU_take (i := 3) (v := .pointer (some ⟨k, 12, none⟩)) rfl (by kernel_rfl) (by kernel_rfl) (by kernel_rfl) (by kernel_rfl) rfl (by kernel_rfl) (fun _ _ _ h => h) (Or.inl ⟨by rfl, fun w h => by go_simp⟩) hHeld ?_
  try simp only [Act.put, List.getElem_toArray, List.getElem_cons_succ, List.getElem_cons_zero, List.setIfInBounds_toArray, List.set_cons_zero, List.set_cons_succ]
  refine wpAnyU_take (i := 4) (v := .slice s.rs.a s.rs.n s.rs.c) rfl (by kernel_rfl) (by kernel_rfl) (by kernel_rfl) (by kernel_rfl) rfl (by kernel_rfl) (fun _ _ _ h => h) (Or.inl ⟨by rfl, fun w h => by go_simp⟩) hHeld ?_
  try simp only [Act.put, List.getElem_toArray, List.getElem_cons_succ, List.getElem_cons_zero, List.setIfInBounds_toArray, List.set_cons_zero, List.set_cons_succ]
  refine wpAnyU_take (i := 6) (v := .pointer (some ⟨k, 15, none⟩)) rfl (by kernel_rfl) (by kernel_rfl) (by kernel_rfl) (by kernel_rfl) rfl (by kernel_rfl) (fun _ _ _ h => h) (Or.inl ⟨by rfl, fun w h => by go_simp⟩) hHeld ?_
  try simp only [Act.put, List.getElem_toArray, List.getElem_cons_succ, List.getElem_cons_zero, List.setIfInBounds_toArray, List.set_cons_zero, List.set_cons_succ]
  refine wpAnyU_take (i := 7) (v := .slice s.vs.a s.vs.n s.vs.c) rfl (by kernel_rfl) (by kernel_rfl) (by kernel_rfl) (by kernel_rfl) rfl (by kernel_rfl) (fun _ _ _ h => h) (Or.inl ⟨by rfl, fun w h => by go_simp⟩) hHeld ?_
  try simp only [Act.put, List.getElem_toArray, List.getElem_cons_succ, List.getElem_cons_zero, List.setIfInBounds_toArray, List.set_cons_zero, List.set_cons_succ]
  refine wpAnyU_ready (rs := [2]) (by kernel_rfl) (by simp) (AllReadyU.cons rfl (fun K hK => ?_) AllReadyU.nil)
  go_simp
  go_at_call 36
  refine (clone_any _ (HM1.out.bel HBV.out (Nat.le_refl _)).nm (by omega)).mono ?_
  rintro x w2 ⟨a2, c2, rfl, o2, B2⟩
  have HB2 := Lib.hid (btr HBV.out B2)
  refine hK.out _ _ (HP.out _ HB2.out) (fun hHeld => ?_)
  clear hK K
  try simp only [Act.put, List.getElem_toArray, List.getElem_cons_succ, List.getElem_cons_zero, List.setIfInBounds_toArray, List.set_cons_zero, List.set_cons_succ]
  refine wpAnyU_take (i := 9) (v := .pointer (some ⟨k, 3, none⟩)) rfl (by kernel_rfl) (by kernel_rfl) (by kernel_rfl) (by kernel_rfl) rfl (by kernel_rfl) (fun _ _ _ h => h) (Or.inl ⟨by rfl, fun w h => by go_simp⟩) hHeld ?_
  try simp only [Act.put, List.getElem_toArray, List.getElem_cons_succ, List.getElem_cons_zero, List.setIfInBounds_toArray, List.set_cons_zero, List.set_cons_succ]
  refine wpAnyU_ready (rs := [5]) (by kernel_rfl) (by simp) (AllReadyU.cons rfl (fun K hK => ?_) AllReadyU.nil)
  go_simp
  go_at_call 36
  refine (clone_any _ (HM1.out.bel HB2.out (Nat.le_refl _)).rs (by omega)).mono ?_
  rintro x w3 ⟨a3, c3, rfl, o3, B3⟩
  have HB3 := Lib.hid (btr HB2.out B3)
  refine hK.out _ _ (HP.out _ HB3.out) (fun hHeld => ?_)
  clear hK K
  try simp only [Act.put, List.getElem_toArray, List.getElem_cons_succ, List.getElem_cons_zero, List.setIfInBounds_toArray, List.set_cons_zero, List.set_cons_succ]
  refine wpAnyU_ready (rs := [8]) (by kernel_rfl) (by simp) (AllReadyU.cons rfl (fun K hK => ?_) AllReadyU.nil)
  go_simp
  go_at_call 37
  refine (uclone_any _ (HM1.out.bel HB3.out (Nat.le_refl _)).vs (by omega)).mono ?_
  rintro x w4 ⟨a4, c4, rfl, o4, B4⟩
  have HB4 := Lib.hid (btr HB3.out B4)
  refine hK.out _ _ (HP.out _ HB4.out) (fun hHeld => ?_)
  clear hK K
  try simp only [Act.put, List.getElem_toArray, List.getElem_cons_succ, List.getElem_cons_zero, List.setIfInBounds_toArray, List.set_cons_zero, List.set_cons_succ]
  have hr4 := HA.out.bel HB4.out
  have f3 := hr4.fr 3
  have f12 := hr4.fr 12
  have f15 := hr4.fr 15
  have d12 := hHeld.2.1
  have d15 := hHeld.2.2
  have d3 := hHeld.1
  refine wpAnyU_ready (rs := [10]) (by kernel_rfl) (by simp) (AllReadyU.consT rfl (by kernel_rfl) (fun K hK => ?_) AllReadyU.nil)
  go_simp
  refine hK.out _ _ ?_
  clear hK K
  try simp only [Act.put, List.getElem_toArray, List.getElem_cons_succ, List.getElem_cons_zero, List.setIfInBounds_toArray, List.set_cons_zero, List.set_cons_succ]
  refine wpAnyU_ready (rs := [11]) (by kernel_rfl) (by simp) (AllReadyU.consT rfl (by kernel_rfl) (fun K hK => ?_) AllReadyU.nil)
  go_simp
  refine hK.out _ _ ?_
  clear hK K
  try simp only [Act.put, List.getElem_toArray, List.getElem_cons_succ, List.getElem_cons_zero, List.setIfInBounds_toArray, List.set_cons_zero, List.set_cons_succ]
  refine wpAnyU_ready (rs := [12]) (by kernel_rfl) (by simp) (AllReadyU.consT rfl (by kernel_rfl) (fun K hK => ?_) AllReadyU.nil)
  go_simp
  refine hK.out _ _ ?_
  clear hK K
  try simp only [Act.put, List.getElem_toArray, List.getElem_cons_succ, List.getElem_cons_zero, List.setIfInBounds_toArray, List.set_cons_zero, List.set_cons_succ]
  refine wpAnyU_ready (rs := [13]) (by kernel_rfl) (by simp) (AllReadyU.consT rfl (by kernel_rfl) (fun K hK => ?_) AllReadyU.nil)
  go_simp
  refine hK.out _ _ ?_
  clear hK K
  try simp only [Act.put, List.getElem_toArray, List.getElem_cons_succ, List.getElem_cons_zero, List.setIfInBounds_toArray, List.set_cons_zero, List.set_cons_succ]
  refine wpAnyU_ready (rs := [14]) (by kernel_rfl) (by simp) (AllReadyU.consT rfl (by kernel_rfl) (fun K hK => ?_) AllReadyU.nil)
  go_simp
  refine hK.out _ _ ?_
  clear hK K
  try simp only [Act.put, List.getElem_toArray, List.getElem_cons_succ, List.getElem_cons_zero, List.setIfInBounds_toArray, List.set_cons_zero, List.set_cons_succ]
  refine wpAnyU_done (by kernel_rfl) ?_ _
  try simp only [Act.put, List.getElem_toArray, List.getElem_cons_succ, List.getElem_cons_zero]
  have hF := ((hr4.set 3 (.slice a2 s.nm.n c2)).set 12 (.slice a3 s.rs.n c3)).set 15 (.slice a4 s.vs.n c4)
  have hZ4 := (((HZ.out.bel HB4.out).keep (w' := w4.setCell ⟨k, 3, none⟩ (.slice a2 s.nm.n c2)) (Below.heap_setCell _ _ _ _ (fun h => by simp only at h; omega))).keep (w' := (w4.setCell ⟨k, 3, none⟩ (.slice a2 s.nm.n c2)).setCell ⟨k, 12, none⟩ (.slice a3 s.rs.n c3)) (Below.heap_setCell _ _ _ _ (fun h => by simp only at h; omega))).keep (w' := ((w4.setCell ⟨k, 3, none⟩ (.slice a2 s.nm.n c2)).setCell ⟨k, 12, none⟩ (.slice a3 s.rs.n c3)).setCell ⟨k, 15, none⟩ (.slice a4 s.vs.n c4)) (Below.heap_setCell _ _ _ _ (fun h => by simp only at h; omega))
  have hkb := ((KB.set hr4 (o := 3) (by decide) (by decide) (.slice a2 s.nm.n c2)).trans (KB.set (hr4.set 3 (.slice a2 s.nm.n c2)) (o := 12) (by decide) (by decide) (.slice a3 s.rs.n c3))).trans (KB.set ((hr4.set 3 (.slice a2 s.nm.n c2)).set 12 (.slice a3 s.rs.n c3)) (o := 15) (by decide) (by decide) (.slice a4 s.vs.n c4))
  have hb4 := (((below_then HB.out HB4.out HB.out.size).setCell (p := ⟨k, 3, none⟩) (by simp only; have := Hk.out; omega) (.slice a2 s.nm.n c2)).setCell (p := ⟨k, 12, none⟩) (by simp only; have := Hk.out; omega) (.slice a3 s.rs.n c3)).setCell (p := ⟨k, 15, none⟩) (by simp only; have := Hk.out; omega) (.slice a4 s.vs.n c4)
  have hsz : w.heap.size ≤ W1.heap.size := HB.out.size
  have hsz2 := HB2.out.size
  have hsz3 := HB3.out.size
  have hszV := HBV.out.size
  have hmo : MO w4 w.heap.size m ⟨⟨a2, s.nm.n, c2⟩, ⟨a3, s.rs.n, c3⟩, ⟨a4, s.vs.n, c4⟩⟩ := ⟨HmB.out, ((o2.below B3 (Nat.le_refl _)).below B4 (Nat.le_refl _)).mono (by omega), (o3.below B4 (Nat.le_refl _)).mono (by omega), o4.mono (by omega), hl1, hl2, hl3⟩
  have hmo5 := hmo.kb hkb
  obtain ⟨W5, hW5⟩ : ∃ x, ((w4.setCell ⟨k, 3, none⟩ (.slice a2 s.nm.n c2)).setCell ⟨k, 12, none⟩ (.slice a3 s.rs.n c3)).setCell ⟨k, 15, none⟩ (.slice a4 s.vs.n c4) = x := ⟨_, rfl⟩
  rw [hW5] at hF hZ4 hb4 hmo5 ⊢
  have Hrg := Lib.hid (show W5.rangeAt k 0 [.int .u64 (m.kind : Int), .int .u64 (m.id : Int), .int .u64 (m.alias : Int), .slice a2 s.nm.n c2, .int .u8 (m.prio : Int), .int .u8 (m.ord : Int), .int .u64 (m.sg : Int), .int .u64 (m.so : Int), .int .u64 (m.eg : Int), .int .u64 (m.eo : Int), .bool m.some, .int .u64 (m.code : Int), .slice a3 s.rs.n c3, .int .u64 (m.n : Int), .int .u64 (m.ver : Int), .slice a4 s.vs.n c4] from hF.rng)
  have HZ5 := Lib.hid hZ4
  have HB5 := Lib.hid hb4
  have HMO := Lib.hid hmo5
  have HS5 := Lib.hid (HS.out ⟨⟨a2, s.nm.n, c2⟩, ⟨a3, s.rs.n, c3⟩, ⟨a4, s.vs.n, c4⟩⟩)
  clear hF hZ4 hb4 hmo5 hmo hkb hr4 f3 f12 f15 d3 d12 d15 o2 o3 o4 B2 B3 B4 HB2 HB3 HB4 HBV HP HC HA HZ HM1 HB hW5 hHeld hsz2 hsz3 hszV hV
  go_wp2_with (first
    | (refine wpList_load_mid rfl _ _ rfl _ _ rfl _ _ Hrg.out Tryd.underlying31 rfl iMsg ?_)
    | (refine L_storeRow (old := [.int .u64 0, .int .u64 0, .int .u64 0, .slice none 0 0, .int .u8 0, .int .u8 0, .int .u64 0, .int .u64 0, .int .u64 0, .int .u64 0, .bool false, .int .u64 0, .slice none 0 0, .int .u64 0, .int .u64 0, .slice none 0 0]) (new := [.int .u64 (m.kind : Int), .int .u64 (m.id : Int), .int .u64 (m.alias : Int), .slice a2 s.nm.n c2, .int .u8 (m.prio : Int), .int .u8 (m.ord : Int), .int .u64 (m.sg : Int), .int .u64 (m.so : Int), .int .u64 (m.eg : Int), .int .u64 (m.eo : Int), .bool m.some, .int .u64 (m.code : Int), .slice a3 s.rs.n c3, .int .u64 (m.n : Int), .int .u64 (m.ver : Int), .slice a4 s.vs.n c4]) rfl 31 _ _ rfl rfl rfl HZ5.out iMsg rfl rfl (by simp [Value.oneCell']) ?_; intro W6 hz hg3))
  refine bodyPost_ret_by (results_cell_row rfl _ _ _ _ _ _ _ rfl hz Tryd.underlying31 rfl iMsg) rfl ?_
  refine ⟨⟨⟨a2, s.nm.n, c2⟩, ⟨a3, s.rs.n, c3⟩, ⟨a4, s.vs.n, c4⟩⟩, rfl, HMO.out.kb (fun b cur e fr he hb => hg3.block b (Array.getElem?_eq_some_iff.1 hb).1 (fun h => by
    injection h with h
    have h5 := HZ5.out
    unfold CR at h5
    rw [h, h5] at hb
    injection hb with hb
    injection hb with hb1 hb2
    rcases he with rfl | rfl <;> cases hb2)), HB5.out.grown hg3 HB5.out.size (fun j hj => by cases hj; have := Hk.out; omega)⟩
end Go.Proofs.YtokgpnkooigamaaDoor
