/- word.bare: a message without the parts that its kind names. -/
import Derived.Test.YtokgpnkooigamaaDoorTB
set_option maxRecDepth 100000
set_option linter.unusedVariables false
namespace Go.Proofs.YtokgpnkooigamaaDoor
open Go.RowKit
theorem grownBy_setRow (w : World) (g : Nat) (cs : Array Value) : w.grownBy (w.setRow g cs) (some g) := by
  refine ⟨rfl, rfl, rfl, by simp, fun k _ hk => ?_⟩
  have : g ≠ k := fun h => hk (by rw [h])
  simp [World.setRow, Array.getElem?_modify, this]
theorem L_storeRow {w : World} {ops : Array Oper} {rest : List Oper} {o : Oper} {f : Act} {Q : Exit → Act → World → Prop} (hgd : o.guard = none) (t : TypeId) (x y : Operand) (ho : o.op = .store t x y)
    {g n : Nat} {t' : TypeId} {old new : List Value} (hx : f.eval x = .pointer (some ⟨g, 0, none⟩)) (hy : f.eval y = .agg new.toArray) (hA : w.heap[g]? = some (.cells old.toArray t' (0, 0))) (hi : (Tryd.prog.info? t).map (·.size) = some n) (hl : old.length = n) (hl2 : new.length = n) (h1 : ∀ v ∈ new, v.oneCell' = true)
    (h : ∀ w', w'.heap[g]? = some (.cells new.toArray t' (0, 0)) → w.grownBy w' (some g) → wpList Tryd.prog ops Q rest (f.put o.dst undef) w') : wpList Tryd.prog ops Q (o :: rest) f w := by
  refine wpList_store_row hgd t x y ho g _ hx hy t' _ hA (by rw [List.size_toArray, hl2]; exact hi) (by simp [hl, hl2]) (by rw [Array.all_eq_true_iff_forall_mem]; intro v hv; exact h1 v (by simpa using hv)) ?_
  exact h _ (setRow_heap _ _ _ _ _ _ hA) (grownBy_setRow w g _)
theorem heap_alloc2a (w : World) (o p : Obj) : ((w.alloc o).alloc p).heap[w.heap.size]? = some o := by
  rw [Below.heap_alloc (w.alloc o) p w.heap.size (by simp)]; exact heap_alloc_new w o
theorem heap_alloc2b (w : World) (o p : Obj) : ((w.alloc o).alloc p).heap[w.heap.size + 1]? = some p := by
  have h := heap_alloc_new (w.alloc o) p
  rwa [show (w.alloc o).heap.size = w.heap.size + 1 by simp] at h
set_option maxHeartbeats 4000000 in
theorem bare_191 (w : World) (m : MG) (s : ML) :
    Calls Tryd.prog 53 #[.agg (mgc m s).toArray, .int .i64 191] w fun e w' => e = .returned (.agg ([u64 0, u64 0, u64 0, .slice none 0 0, .int .u8 0, .int .u8 0, u64 0, u64 0, u64 0, u64 0, .bool m.some, u64 m.code, s.rs.v, u64 m.n, u64 m.ver, s.vs.v] : List Value).toArray) ∧ Below w.heap.size w w' := by
  obtain ⟨k, hk⟩ : ∃ k, w.heap.size = k := ⟨_, rfl⟩
  have hA := heap_alloc2a w (.cells (mgc m s).toArray 31) (.cells #[.int .u64 0, .int .u64 0, .int .u64 0, .slice none 0 0, .int .u8 0, .int .u8 0, .int .u64 0, .int .u64 0, .int .u64 0, .int .u64 0, .bool false, .int .u64 0, .slice none 0 0, .int .u64 0, .int .u64 0, .slice none 0 0] 31)
  have hZ := heap_alloc2b w (.cells (mgc m s).toArray 31) (.cells #[.int .u64 0, .int .u64 0, .int .u64 0, .slice none 0 0, .int .u8 0, .int .u8 0, .int .u64 0, .int .u64 0, .int .u64 0, .int .u64 0, .bool false, .int .u64 0, .slice none 0 0, .int .u64 0, .int .u64 0, .slice none 0 0] 31)
  have hb : Below w.heap.size w ((w.alloc (.cells (mgc m s).toArray 31)).alloc (.cells #[.int .u64 0, .int .u64 0, .int .u64 0, .slice none 0 0, .int .u8 0, .int .u8 0, .int .u64 0, .int .u64 0, .int .u64 0, .int .u64 0, .bool false, .int .u64 0, .slice none 0 0, .int .u64 0, .int .u64 0, .slice none 0 0] 31)) := (below_alloc w _).alloc (by simp) _
  unfold mgc u64 SA.v at *
  obtain ⟨W1, hW1⟩ : ∃ x, (w.alloc (.cells ([.int .u64 (m.kind : Int), .int .u64 (m.id : Int), .int .u64 (m.alias : Int), .slice s.nm.a s.nm.n s.nm.c, .int .u8 (m.prio : Int), .int .u8 (m.ord : Int), .int .u64 (m.sg : Int), .int .u64 (m.so : Int), .int .u64 (m.eg : Int), .int .u64 (m.eo : Int), .bool m.some, .int .u64 (m.code : Int), .slice s.rs.a s.rs.n s.rs.c, .int .u64 (m.n : Int), .int .u64 (m.ver : Int), .slice s.vs.a s.vs.n s.vs.c] : List Value).toArray 31)).alloc (.cells #[.int .u64 0, .int .u64 0, .int .u64 0, .slice none 0 0, .int .u8 0, .int .u8 0, .int .u64 0, .int .u64 0, .int .u64 0, .int .u64 0, .bool false, .int .u64 0, .slice none 0 0, .int .u64 0, .int .u64 0, .slice none 0 0] 31) = x := ⟨_, rfl⟩
  rw [hW1, hk] at hA hZ
  rw [hW1] at hb
  have HA := Lib.hid (show CR W1 k 31 [.int .u64 (m.kind : Int), .int .u64 (m.id : Int), .int .u64 (m.alias : Int), .slice s.nm.a s.nm.n s.nm.c, .int .u8 (m.prio : Int), .int .u8 (m.ord : Int), .int .u64 (m.sg : Int), .int .u64 (m.so : Int), .int .u64 (m.eg : Int), .int .u64 (m.eo : Int), .bool m.some, .int .u64 (m.code : Int), .slice s.rs.a s.rs.n s.rs.c, .int .u64 (m.n : Int), .int .u64 (m.ver : Int), .slice s.vs.a s.vs.n s.vs.c] from hA)
  have HZ := Lib.hid (show CR W1 (k + 1) 31 [.int .u64 0, .int .u64 0, .int .u64 0, .slice none 0 0, .int .u8 0, .int .u8 0, .int .u64 0, .int .u64 0, .int .u64 0, .int .u64 0, .bool false, .int .u64 0, .slice none 0 0, .int .u64 0, .int .u64 0, .slice none 0 0] from hZ)
  have HB := Lib.hid hb
  have Hk := Lib.hid hk
  clear hA hZ hb
  go_enter Tryd.func53, Tryd.ntmps53
  go_upto_region 1 with (fail)
  clear hW1 hk
  have u0 : W1.cell? ⟨k, 0, none⟩ = some (.int .u64 (m.kind : Int)) := HA.out.at_ 0
  have f0 := HA.out.fr 0
  have u1 : W1.cell? ⟨k, 1, none⟩ = some (.int .u64 (m.id : Int)) := HA.out.at_ 1
  have f1 := HA.out.fr 1
  have u2 : W1.cell? ⟨k, 2, none⟩ = some (.int .u64 (m.alias : Int)) := HA.out.at_ 2
  have f2 := HA.out.fr 2
  have u3 : W1.cell? ⟨k, 3, none⟩ = some (.slice s.nm.a s.nm.n s.nm.c) := HA.out.at_ 3
  have f3 := HA.out.fr 3
  have u4 : W1.cell? ⟨k, 4, none⟩ = some (.int .u8 (m.prio : Int)) := HA.out.at_ 4
  have f4 := HA.out.fr 4
  have u5 : W1.cell? ⟨k, 5, none⟩ = some (.int .u8 (m.ord : Int)) := HA.out.at_ 5
  have f5 := HA.out.fr 5
  have u6 : W1.cell? ⟨k, 6, none⟩ = some (.int .u64 (m.sg : Int)) := HA.out.at_ 6
  have f6 := HA.out.fr 6
  have u7 : W1.cell? ⟨k, 7, none⟩ = some (.int .u64 (m.so : Int)) := HA.out.at_ 7
  have f7 := HA.out.fr 7
  have u8 : W1.cell? ⟨k, 8, none⟩ = some (.int .u64 (m.eg : Int)) := HA.out.at_ 8
  have f8 := HA.out.fr 8
  have u9 : W1.cell? ⟨k, 9, none⟩ = some (.int .u64 (m.eo : Int)) := HA.out.at_ 9
  have f9 := HA.out.fr 9
  go_upto_region 28 with (fail)
  clear u0 f0 u1 f1 u2 f2 u3 f3 u4 f4 u5 f5 u6 f6 u7 f7 u8 f8 u9 f9
  have hF := ((((((((((HA.out.set 0 (.int .u64 0)).set 1 (.int .u64 0)).set 2 (.int .u64 0)).set 3 (.slice none 0 0)).set 4 (.int .u8 0)).set 5 (.int .u8 0)).set 6 (.int .u64 0)).set 7 (.int .u64 0)).set 8 (.int .u64 0)).set 9 (.int .u64 0))
  obtain ⟨W2, hW2⟩ : ∃ x, ((((((((((W1.setCell ⟨k, 0, none⟩ (.int .u64 0)).setCell ⟨k, 1, none⟩ (.int .u64 0)).setCell ⟨k, 2, none⟩ (.int .u64 0)).setCell ⟨k, 3, none⟩ (.slice none 0 0)).setCell ⟨k, 4, none⟩ (.int .u8 0)).setCell ⟨k, 5, none⟩ (.int .u8 0)).setCell ⟨k, 6, none⟩ (.int .u64 0)).setCell ⟨k, 7, none⟩ (.int .u64 0)).setCell ⟨k, 8, none⟩ (.int .u64 0)).setCell ⟨k, 9, none⟩ (.int .u64 0)) = x := ⟨_, rfl⟩
  have hg : W1.grownBy W2 (some k) := by rw [← hW2]; exact (grown_trans (grown_trans (grown_trans (grown_trans (grown_trans (grown_trans (grown_trans (grown_trans (grown_trans (grownBy_setCell W1 ⟨k, 0, none⟩ (.int .u64 0)) (grownBy_setCell _ ⟨k, 1, none⟩ (.int .u64 0))) (grownBy_setCell _ ⟨k, 2, none⟩ (.int .u64 0))) (grownBy_setCell _ ⟨k, 3, none⟩ (.slice none 0 0))) (grownBy_setCell _ ⟨k, 4, none⟩ (.int .u8 0))) (grownBy_setCell _ ⟨k, 5, none⟩ (.int .u8 0))) (grownBy_setCell _ ⟨k, 6, none⟩ (.int .u64 0))) (grownBy_setCell _ ⟨k, 7, none⟩ (.int .u64 0))) (grownBy_setCell _ ⟨k, 8, none⟩ (.int .u64 0))) (grownBy_setCell _ ⟨k, 9, none⟩ (.int .u64 0)))
  rw [hW2] at hF ⊢
  have Hrg := Lib.hid (show W2.rangeAt k 0 [.int .u64 0, .int .u64 0, .int .u64 0, .slice none 0 0, .int .u8 0, .int .u8 0, .int .u64 0, .int .u64 0, .int .u64 0, .int .u64 0, .bool m.some, .int .u64 (m.code : Int), .slice s.rs.a s.rs.n s.rs.c, .int .u64 (m.n : Int), .int .u64 (m.ver : Int), .slice s.vs.a s.vs.n s.vs.c] from hF.rng)
  have hZ2 : CR W2 (k + 1) 31 [.int .u64 0, .int .u64 0, .int .u64 0, .slice none 0 0, .int .u8 0, .int .u8 0, .int .u64 0, .int .u64 0, .int .u64 0, .int .u64 0, .bool false, .int .u64 0, .slice none 0 0, .int .u64 0, .int .u64 0, .slice none 0 0] := HZ.out.keep (hg.block _ HZ.out.lt (fun he => by injection he with he; omega))
  have HZ2 := Lib.hid hZ2
  have HB2 := Lib.hid (HB.out.grown hg HB.out.size (fun j hj => by cases hj; rw [Hk.out]; exact Nat.le_refl _))
  clear hW2 hg hF hZ2
  go_wp2_with (first
    | (refine wpList_load_mid rfl _ _ rfl _ _ rfl _ _ Hrg.out Tryd.underlying31 rfl iMsg ?_)
    | (refine L_storeRow (old := [.int .u64 0, .int .u64 0, .int .u64 0, .slice none 0 0, .int .u8 0, .int .u8 0, .int .u64 0, .int .u64 0, .int .u64 0, .int .u64 0, .bool false, .int .u64 0, .slice none 0 0, .int .u64 0, .int .u64 0, .slice none 0 0]) (new := [.int .u64 0, .int .u64 0, .int .u64 0, .slice none 0 0, .int .u8 0, .int .u8 0, .int .u64 0, .int .u64 0, .int .u64 0, .int .u64 0, .bool m.some, .int .u64 (m.code : Int), .slice s.rs.a s.rs.n s.rs.c, .int .u64 (m.n : Int), .int .u64 (m.ver : Int), .slice s.vs.a s.vs.n s.vs.c]) rfl 31 _ _ rfl rfl rfl HZ2.out iMsg rfl rfl (by simp [Value.oneCell']) ?_; intro W3 hz hg3))
  exact bodyPost_ret_by (results_cell_row rfl _ _ _ _ _ _ _ rfl hz Tryd.underlying31 rfl iMsg) rfl ⟨rfl, HB2.out.grown hg3 HB2.out.size (fun j hj => by cases hj; have := Hk.out; omega)⟩
set_option maxHeartbeats 4000000 in
theorem bare_289 (w : World) (m : MG) (s : ML) :
    Calls Tryd.prog 53 #[.agg (mgc m s).toArray, .int .i64 289] w fun e w' => e = .returned (.agg ([u64 0, u64 0, u64 m.alias, s.nm.v, .int .u8 (m.prio : Int), .int .u8 (m.ord : Int), u64 0, u64 0, u64 m.eg, u64 m.eo, .bool false, u64 m.code, s.rs.v, u64 m.n, u64 m.ver, s.vs.v] : List Value).toArray) ∧ Below w.heap.size w w' := by
  obtain ⟨k, hk⟩ : ∃ k, w.heap.size = k := ⟨_, rfl⟩
  have hA := heap_alloc2a w (.cells (mgc m s).toArray 31) (.cells #[.int .u64 0, .int .u64 0, .int .u64 0, .slice none 0 0, .int .u8 0, .int .u8 0, .int .u64 0, .int .u64 0, .int .u64 0, .int .u64 0, .bool false, .int .u64 0, .slice none 0 0, .int .u64 0, .int .u64 0, .slice none 0 0] 31)
  have hZ := heap_alloc2b w (.cells (mgc m s).toArray 31) (.cells #[.int .u64 0, .int .u64 0, .int .u64 0, .slice none 0 0, .int .u8 0, .int .u8 0, .int .u64 0, .int .u64 0, .int .u64 0, .int .u64 0, .bool false, .int .u64 0, .slice none 0 0, .int .u64 0, .int .u64 0, .slice none 0 0] 31)
  have hb : Below w.heap.size w ((w.alloc (.cells (mgc m s).toArray 31)).alloc (.cells #[.int .u64 0, .int .u64 0, .int .u64 0, .slice none 0 0, .int .u8 0, .int .u8 0, .int .u64 0, .int .u64 0, .int .u64 0, .int .u64 0, .bool false, .int .u64 0, .slice none 0 0, .int .u64 0, .int .u64 0, .slice none 0 0] 31)) := (below_alloc w _).alloc (by simp) _
  unfold mgc u64 SA.v at *
  obtain ⟨W1, hW1⟩ : ∃ x, (w.alloc (.cells ([.int .u64 (m.kind : Int), .int .u64 (m.id : Int), .int .u64 (m.alias : Int), .slice s.nm.a s.nm.n s.nm.c, .int .u8 (m.prio : Int), .int .u8 (m.ord : Int), .int .u64 (m.sg : Int), .int .u64 (m.so : Int), .int .u64 (m.eg : Int), .int .u64 (m.eo : Int), .bool m.some, .int .u64 (m.code : Int), .slice s.rs.a s.rs.n s.rs.c, .int .u64 (m.n : Int), .int .u64 (m.ver : Int), .slice s.vs.a s.vs.n s.vs.c] : List Value).toArray 31)).alloc (.cells #[.int .u64 0, .int .u64 0, .int .u64 0, .slice none 0 0, .int .u8 0, .int .u8 0, .int .u64 0, .int .u64 0, .int .u64 0, .int .u64 0, .bool false, .int .u64 0, .slice none 0 0, .int .u64 0, .int .u64 0, .slice none 0 0] 31) = x := ⟨_, rfl⟩
  rw [hW1, hk] at hA hZ
  rw [hW1] at hb
  have HA := Lib.hid (show CR W1 k 31 [.int .u64 (m.kind : Int), .int .u64 (m.id : Int), .int .u64 (m.alias : Int), .slice s.nm.a s.nm.n s.nm.c, .int .u8 (m.prio : Int), .int .u8 (m.ord : Int), .int .u64 (m.sg : Int), .int .u64 (m.so : Int), .int .u64 (m.eg : Int), .int .u64 (m.eo : Int), .bool m.some, .int .u64 (m.code : Int), .slice s.rs.a s.rs.n s.rs.c, .int .u64 (m.n : Int), .int .u64 (m.ver : Int), .slice s.vs.a s.vs.n s.vs.c] from hA)
  have HZ := Lib.hid (show CR W1 (k + 1) 31 [.int .u64 0, .int .u64 0, .int .u64 0, .slice none 0 0, .int .u8 0, .int .u8 0, .int .u64 0, .int .u64 0, .int .u64 0, .int .u64 0, .bool false, .int .u64 0, .slice none 0 0, .int .u64 0, .int .u64 0, .slice none 0 0] from hZ)
  have HB := Lib.hid hb
  have Hk := Lib.hid hk
  clear hA hZ hb
  go_enter Tryd.func53, Tryd.ntmps53
  go_upto_region 1 with (fail)
  clear hW1 hk
  have u0 : W1.cell? ⟨k, 0, none⟩ = some (.int .u64 (m.kind : Int)) := HA.out.at_ 0
  have f0 := HA.out.fr 0
  have u1 : W1.cell? ⟨k, 1, none⟩ = some (.int .u64 (m.id : Int)) := HA.out.at_ 1
  have f1 := HA.out.fr 1
  have u6 : W1.cell? ⟨k, 6, none⟩ = some (.int .u64 (m.sg : Int)) := HA.out.at_ 6
  have f6 := HA.out.fr 6
  have u7 : W1.cell? ⟨k, 7, none⟩ = some (.int .u64 (m.so : Int)) := HA.out.at_ 7
  have f7 := HA.out.fr 7
  have u10 : W1.cell? ⟨k, 10, none⟩ = some (.bool m.some) := HA.out.at_ 10
  have f10 := HA.out.fr 10
  go_upto_region 28 with (fail)
  clear u0 f0 u1 f1 u6 f6 u7 f7 u10 f10
  have hF := (((((HA.out.set 0 (.int .u64 0)).set 1 (.int .u64 0)).set 6 (.int .u64 0)).set 7 (.int .u64 0)).set 10 (.bool false))
  obtain ⟨W2, hW2⟩ : ∃ x, (((((W1.setCell ⟨k, 0, none⟩ (.int .u64 0)).setCell ⟨k, 1, none⟩ (.int .u64 0)).setCell ⟨k, 6, none⟩ (.int .u64 0)).setCell ⟨k, 7, none⟩ (.int .u64 0)).setCell ⟨k, 10, none⟩ (.bool false)) = x := ⟨_, rfl⟩
  have hg : W1.grownBy W2 (some k) := by rw [← hW2]; exact (grown_trans (grown_trans (grown_trans (grown_trans (grownBy_setCell W1 ⟨k, 0, none⟩ (.int .u64 0)) (grownBy_setCell _ ⟨k, 1, none⟩ (.int .u64 0))) (grownBy_setCell _ ⟨k, 6, none⟩ (.int .u64 0))) (grownBy_setCell _ ⟨k, 7, none⟩ (.int .u64 0))) (grownBy_setCell _ ⟨k, 10, none⟩ (.bool false)))
  rw [hW2] at hF ⊢
  have Hrg := Lib.hid (show W2.rangeAt k 0 [.int .u64 0, .int .u64 0, .int .u64 (m.alias : Int), .slice s.nm.a s.nm.n s.nm.c, .int .u8 (m.prio : Int), .int .u8 (m.ord : Int), .int .u64 0, .int .u64 0, .int .u64 (m.eg : Int), .int .u64 (m.eo : Int), .bool false, .int .u64 (m.code : Int), .slice s.rs.a s.rs.n s.rs.c, .int .u64 (m.n : Int), .int .u64 (m.ver : Int), .slice s.vs.a s.vs.n s.vs.c] from hF.rng)
  have hZ2 : CR W2 (k + 1) 31 [.int .u64 0, .int .u64 0, .int .u64 0, .slice none 0 0, .int .u8 0, .int .u8 0, .int .u64 0, .int .u64 0, .int .u64 0, .int .u64 0, .bool false, .int .u64 0, .slice none 0 0, .int .u64 0, .int .u64 0, .slice none 0 0] := HZ.out.keep (hg.block _ HZ.out.lt (fun he => by injection he with he; omega))
  have HZ2 := Lib.hid hZ2
  have HB2 := Lib.hid (HB.out.grown hg HB.out.size (fun j hj => by cases hj; rw [Hk.out]; exact Nat.le_refl _))
  clear hW2 hg hF hZ2
  go_wp2_with (first
    | (refine wpList_load_mid rfl _ _ rfl _ _ rfl _ _ Hrg.out Tryd.underlying31 rfl iMsg ?_)
    | (refine L_storeRow (old := [.int .u64 0, .int .u64 0, .int .u64 0, .slice none 0 0, .int .u8 0, .int .u8 0, .int .u64 0, .int .u64 0, .int .u64 0, .int .u64 0, .bool false, .int .u64 0, .slice none 0 0, .int .u64 0, .int .u64 0, .slice none 0 0]) (new := [.int .u64 0, .int .u64 0, .int .u64 (m.alias : Int), .slice s.nm.a s.nm.n s.nm.c, .int .u8 (m.prio : Int), .int .u8 (m.ord : Int), .int .u64 0, .int .u64 0, .int .u64 (m.eg : Int), .int .u64 (m.eo : Int), .bool false, .int .u64 (m.code : Int), .slice s.rs.a s.rs.n s.rs.c, .int .u64 (m.n : Int), .int .u64 (m.ver : Int), .slice s.vs.a s.vs.n s.vs.c]) rfl 31 _ _ rfl rfl rfl HZ2.out iMsg rfl rfl (by simp [Value.oneCell']) ?_; intro W3 hz hg3))
  exact bodyPost_ret_by (results_cell_row rfl _ _ _ _ _ _ _ rfl hz Tryd.underlying31 rfl iMsg) rfl ⟨rfl, HB2.out.grown hg3 HB2.out.size (fun j hj => by cases hj; have := Hk.out; omega)⟩
set_option maxHeartbeats 4000000 in
theorem bare_1537 (w : World) (m : MG) (s : ML) :
    Calls Tryd.prog 53 #[.agg (mgc m s).toArray, .int .i64 1537] w fun e w' => e = .returned (.agg ([u64 0, u64 0, u64 m.alias, s.nm.v, .int .u8 (m.prio : Int), .int .u8 (m.ord : Int), u64 m.sg, u64 m.so, u64 m.eg, u64 m.eo, .bool m.some, u64 0, .slice none 0 0, u64 m.n, u64 m.ver, s.vs.v] : List Value).toArray) ∧ Below w.heap.size w w' := by
  obtain ⟨k, hk⟩ : ∃ k, w.heap.size = k := ⟨_, rfl⟩
  have hA := heap_alloc2a w (.cells (mgc m s).toArray 31) (.cells #[.int .u64 0, .int .u64 0, .int .u64 0, .slice none 0 0, .int .u8 0, .int .u8 0, .int .u64 0, .int .u64 0, .int .u64 0, .int .u64 0, .bool false, .int .u64 0, .slice none 0 0, .int .u64 0, .int .u64 0, .slice none 0 0] 31)
  have hZ := heap_alloc2b w (.cells (mgc m s).toArray 31) (.cells #[.int .u64 0, .int .u64 0, .int .u64 0, .slice none 0 0, .int .u8 0, .int .u8 0, .int .u64 0, .int .u64 0, .int .u64 0, .int .u64 0, .bool false, .int .u64 0, .slice none 0 0, .int .u64 0, .int .u64 0, .slice none 0 0] 31)
  have hb : Below w.heap.size w ((w.alloc (.cells (mgc m s).toArray 31)).alloc (.cells #[.int .u64 0, .int .u64 0, .int .u64 0, .slice none 0 0, .int .u8 0, .int .u8 0, .int .u64 0, .int .u64 0, .int .u64 0, .int .u64 0, .bool false, .int .u64 0, .slice none 0 0, .int .u64 0, .int .u64 0, .slice none 0 0] 31)) := (below_alloc w _).alloc (by simp) _
  unfold mgc u64 SA.v at *
  obtain ⟨W1, hW1⟩ : ∃ x, (w.alloc (.cells ([.int .u64 (m.kind : Int), .int .u64 (m.id : Int), .int .u64 (m.alias : Int), .slice s.nm.a s.nm.n s.nm.c, .int .u8 (m.prio : Int), .int .u8 (m.ord : Int), .int .u64 (m.sg : Int), .int .u64 (m.so : Int), .int .u64 (m.eg : Int), .int .u64 (m.eo : Int), .bool m.some, .int .u64 (m.code : Int), .slice s.rs.a s.rs.n s.rs.c, .int .u64 (m.n : Int), .int .u64 (m.ver : Int), .slice s.vs.a s.vs.n s.vs.c] : List Value).toArray 31)).alloc (.cells #[.int .u64 0, .int .u64 0, .int .u64 0, .slice none 0 0, .int .u8 0, .int .u8 0, .int .u64 0, .int .u64 0, .int .u64 0, .int .u64 0, .bool false, .int .u64 0, .slice none 0 0, .int .u64 0, .int .u64 0, .slice none 0 0] 31) = x := ⟨_, rfl⟩
  rw [hW1, hk] at hA hZ
  rw [hW1] at hb
  have HA := Lib.hid (show CR W1 k 31 [.int .u64 (m.kind : Int), .int .u64 (m.id : Int), .int .u64 (m.alias : Int), .slice s.nm.a s.nm.n s.nm.c, .int .u8 (m.prio : Int), .int .u8 (m.ord : Int), .int .u64 (m.sg : Int), .int .u64 (m.so : Int), .int .u64 (m.eg : Int), .int .u64 (m.eo : Int), .bool m.some, .int .u64 (m.code : Int), .slice s.rs.a s.rs.n s.rs.c, .int .u64 (m.n : Int), .int .u64 (m.ver : Int), .slice s.vs.a s.vs.n s.vs.c] from hA)
  have HZ := Lib.hid (show CR W1 (k + 1) 31 [.int .u64 0, .int .u64 0, .int .u64 0, .slice none 0 0, .int .u8 0, .int .u8 0, .int .u64 0, .int .u64 0, .int .u64 0, .int .u64 0, .bool false, .int .u64 0, .slice none 0 0, .int .u64 0, .int .u64 0, .slice none 0 0] from hZ)
  have HB := Lib.hid hb
  have Hk := Lib.hid hk
  clear hA hZ hb
  go_enter Tryd.func53, Tryd.ntmps53
  go_upto_region 1 with (fail)
  clear hW1 hk
  have u0 : W1.cell? ⟨k, 0, none⟩ = some (.int .u64 (m.kind : Int)) := HA.out.at_ 0
  have f0 := HA.out.fr 0
  have u1 : W1.cell? ⟨k, 1, none⟩ = some (.int .u64 (m.id : Int)) := HA.out.at_ 1
  have f1 := HA.out.fr 1
  have u11 : W1.cell? ⟨k, 11, none⟩ = some (.int .u64 (m.code : Int)) := HA.out.at_ 11
  have f11 := HA.out.fr 11
  have u12 : W1.cell? ⟨k, 12, none⟩ = some (.slice s.rs.a s.rs.n s.rs.c) := HA.out.at_ 12
  have f12 := HA.out.fr 12
  go_upto_region 28 with (fail)
  clear u0 f0 u1 f1 u11 f11 u12 f12
  have hF := ((((HA.out.set 0 (.int .u64 0)).set 1 (.int .u64 0)).set 11 (.int .u64 0)).set 12 (.slice none 0 0))
  obtain ⟨W2, hW2⟩ : ∃ x, ((((W1.setCell ⟨k, 0, none⟩ (.int .u64 0)).setCell ⟨k, 1, none⟩ (.int .u64 0)).setCell ⟨k, 11, none⟩ (.int .u64 0)).setCell ⟨k, 12, none⟩ (.slice none 0 0)) = x := ⟨_, rfl⟩
  have hg : W1.grownBy W2 (some k) := by rw [← hW2]; exact (grown_trans (grown_trans (grown_trans (grownBy_setCell W1 ⟨k, 0, none⟩ (.int .u64 0)) (grownBy_setCell _ ⟨k, 1, none⟩ (.int .u64 0))) (grownBy_setCell _ ⟨k, 11, none⟩ (.int .u64 0))) (grownBy_setCell _ ⟨k, 12, none⟩ (.slice none 0 0)))
  rw [hW2] at hF ⊢
  have Hrg := Lib.hid (show W2.rangeAt k 0 [.int .u64 0, .int .u64 0, .int .u64 (m.alias : Int), .slice s.nm.a s.nm.n s.nm.c, .int .u8 (m.prio : Int), .int .u8 (m.ord : Int), .int .u64 (m.sg : Int), .int .u64 (m.so : Int), .int .u64 (m.eg : Int), .int .u64 (m.eo : Int), .bool m.some, .int .u64 0, .slice none 0 0, .int .u64 (m.n : Int), .int .u64 (m.ver : Int), .slice s.vs.a s.vs.n s.vs.c] from hF.rng)
  have hZ2 : CR W2 (k + 1) 31 [.int .u64 0, .int .u64 0, .int .u64 0, .slice none 0 0, .int .u8 0, .int .u8 0, .int .u64 0, .int .u64 0, .int .u64 0, .int .u64 0, .bool false, .int .u64 0, .slice none 0 0, .int .u64 0, .int .u64 0, .slice none 0 0] := HZ.out.keep (hg.block _ HZ.out.lt (fun he => by injection he with he; omega))
  have HZ2 := Lib.hid hZ2
  have HB2 := Lib.hid (HB.out.grown hg HB.out.size (fun j hj => by cases hj; rw [Hk.out]; exact Nat.le_refl _))
  clear hW2 hg hF hZ2
  go_wp2_with (first
    | (refine wpList_load_mid rfl _ _ rfl _ _ rfl _ _ Hrg.out Tryd.underlying31 rfl iMsg ?_)
    | (refine L_storeRow (old := [.int .u64 0, .int .u64 0, .int .u64 0, .slice none 0 0, .int .u8 0, .int .u8 0, .int .u64 0, .int .u64 0, .int .u64 0, .int .u64 0, .bool false, .int .u64 0, .slice none 0 0, .int .u64 0, .int .u64 0, .slice none 0 0]) (new := [.int .u64 0, .int .u64 0, .int .u64 (m.alias : Int), .slice s.nm.a s.nm.n s.nm.c, .int .u8 (m.prio : Int), .int .u8 (m.ord : Int), .int .u64 (m.sg : Int), .int .u64 (m.so : Int), .int .u64 (m.eg : Int), .int .u64 (m.eo : Int), .bool m.some, .int .u64 0, .slice none 0 0, .int .u64 (m.n : Int), .int .u64 (m.ver : Int), .slice s.vs.a s.vs.n s.vs.c]) rfl 31 _ _ rfl rfl rfl HZ2.out iMsg rfl rfl (by simp [Value.oneCell']) ?_; intro W3 hz hg3))
  exact bodyPost_ret_by (results_cell_row rfl _ _ _ _ _ _ _ rfl hz Tryd.underlying31 rfl iMsg) rfl ⟨rfl, HB2.out.grown hg3 HB2.out.size (fun j hj => by cases hj; have := Hk.out; omega)⟩
set_option maxHeartbeats 4000000 in
theorem bare_5 (w : World) (m : MG) (s : ML) :
    Calls Tryd.prog 53 #[.agg (mgc m s).toArray, .int .i64 5] w fun e w' => e = .returned (.agg ([u64 0, u64 0, u64 m.alias, .slice none 0 0, .int .u8 (m.prio : Int), .int .u8 (m.ord : Int), u64 m.sg, u64 m.so, u64 m.eg, u64 m.eo, .bool m.some, u64 m.code, s.rs.v, u64 m.n, u64 m.ver, s.vs.v] : List Value).toArray) ∧ Below w.heap.size w w' := by
  obtain ⟨k, hk⟩ : ∃ k, w.heap.size = k := ⟨_, rfl⟩
  have hA := heap_alloc2a w (.cells (mgc m s).toArray 31) (.cells #[.int .u64 0, .int .u64 0, .int .u64 0, .slice none 0 0, .int .u8 0, .int .u8 0, .int .u64 0, .int .u64 0, .int .u64 0, .int .u64 0, .bool false, .int .u64 0, .slice none 0 0, .int .u64 0, .int .u64 0, .slice none 0 0] 31)
  have hZ := heap_alloc2b w (.cells (mgc m s).toArray 31) (.cells #[.int .u64 0, .int .u64 0, .int .u64 0, .slice none 0 0, .int .u8 0, .int .u8 0, .int .u64 0, .int .u64 0, .int .u64 0, .int .u64 0, .bool false, .int .u64 0, .slice none 0 0, .int .u64 0, .int .u64 0, .slice none 0 0] 31)
  have hb : Below w.heap.size w ((w.alloc (.cells (mgc m s).toArray 31)).alloc (.cells #[.int .u64 0, .int .u64 0, .int .u64 0, .slice none 0 0, .int .u8 0, .int .u8 0, .int .u64 0, .int .u64 0, .int .u64 0, .int .u64 0, .bool false, .int .u64 0, .slice none 0 0, .int .u64 0, .int .u64 0, .slice none 0 0] 31)) := (below_alloc w _).alloc (by simp) _
  unfold mgc u64 SA.v at *
  obtain ⟨W1, hW1⟩ : ∃ x, (w.alloc (.cells ([.int .u64 (m.kind : Int), .int .u64 (m.id : Int), .int .u64 (m.alias : Int), .slice s.nm.a s.nm.n s.nm.c, .int .u8 (m.prio : Int), .int .u8 (m.ord : Int), .int .u64 (m.sg : Int), .int .u64 (m.so : Int), .int .u64 (m.eg : Int), .int .u64 (m.eo : Int), .bool m.some, .int .u64 (m.code : Int), .slice s.rs.a s.rs.n s.rs.c, .int .u64 (m.n : Int), .int .u64 (m.ver : Int), .slice s.vs.a s.vs.n s.vs.c] : List Value).toArray 31)).alloc (.cells #[.int .u64 0, .int .u64 0, .int .u64 0, .slice none 0 0, .int .u8 0, .int .u8 0, .int .u64 0, .int .u64 0, .int .u64 0, .int .u64 0, .bool false, .int .u64 0, .slice none 0 0, .int .u64 0, .int .u64 0, .slice none 0 0] 31) = x := ⟨_, rfl⟩
  rw [hW1, hk] at hA hZ
  rw [hW1] at hb
  have HA := Lib.hid (show CR W1 k 31 [.int .u64 (m.kind : Int), .int .u64 (m.id : Int), .int .u64 (m.alias : Int), .slice s.nm.a s.nm.n s.nm.c, .int .u8 (m.prio : Int), .int .u8 (m.ord : Int), .int .u64 (m.sg : Int), .int .u64 (m.so : Int), .int .u64 (m.eg : Int), .int .u64 (m.eo : Int), .bool m.some, .int .u64 (m.code : Int), .slice s.rs.a s.rs.n s.rs.c, .int .u64 (m.n : Int), .int .u64 (m.ver : Int), .slice s.vs.a s.vs.n s.vs.c] from hA)
  have HZ := Lib.hid (show CR W1 (k + 1) 31 [.int .u64 0, .int .u64 0, .int .u64 0, .slice none 0 0, .int .u8 0, .int .u8 0, .int .u64 0, .int .u64 0, .int .u64 0, .int .u64 0, .bool false, .int .u64 0, .slice none 0 0, .int .u64 0, .int .u64 0, .slice none 0 0] from hZ)
  have HB := Lib.hid hb
  have Hk := Lib.hid hk
  clear hA hZ hb
  go_enter Tryd.func53, Tryd.ntmps53
  go_upto_region 1 with (fail)
  clear hW1 hk
  have u0 : W1.cell? ⟨k, 0, none⟩ = some (.int .u64 (m.kind : Int)) := HA.out.at_ 0
  have f0 := HA.out.fr 0
  have u1 : W1.cell? ⟨k, 1, none⟩ = some (.int .u64 (m.id : Int)) := HA.out.at_ 1
  have f1 := HA.out.fr 1
  have u3 : W1.cell? ⟨k, 3, none⟩ = some (.slice s.nm.a s.nm.n s.nm.c) := HA.out.at_ 3
  have f3 := HA.out.fr 3
  go_upto_region 28 with (fail)
  clear u0 f0 u1 f1 u3 f3
  have hF := (((HA.out.set 0 (.int .u64 0)).set 1 (.int .u64 0)).set 3 (.slice none 0 0))
  obtain ⟨W2, hW2⟩ : ∃ x, (((W1.setCell ⟨k, 0, none⟩ (.int .u64 0)).setCell ⟨k, 1, none⟩ (.int .u64 0)).setCell ⟨k, 3, none⟩ (.slice none 0 0)) = x := ⟨_, rfl⟩
  have hg : W1.grownBy W2 (some k) := by rw [← hW2]; exact (grown_trans (grown_trans (grownBy_setCell W1 ⟨k, 0, none⟩ (.int .u64 0)) (grownBy_setCell _ ⟨k, 1, none⟩ (.int .u64 0))) (grownBy_setCell _ ⟨k, 3, none⟩ (.slice none 0 0)))
  rw [hW2] at hF ⊢
  have Hrg := Lib.hid (show W2.rangeAt k 0 [.int .u64 0, .int .u64 0, .int .u64 (m.alias : Int), .slice none 0 0, .int .u8 (m.prio : Int), .int .u8 (m.ord : Int), .int .u64 (m.sg : Int), .int .u64 (m.so : Int), .int .u64 (m.eg : Int), .int .u64 (m.eo : Int), .bool m.some, .int .u64 (m.code : Int), .slice s.rs.a s.rs.n s.rs.c, .int .u64 (m.n : Int), .int .u64 (m.ver : Int), .slice s.vs.a s.vs.n s.vs.c] from hF.rng)
  have hZ2 : CR W2 (k + 1) 31 [.int .u64 0, .int .u64 0, .int .u64 0, .slice none 0 0, .int .u8 0, .int .u8 0, .int .u64 0, .int .u64 0, .int .u64 0, .int .u64 0, .bool false, .int .u64 0, .slice none 0 0, .int .u64 0, .int .u64 0, .slice none 0 0] := HZ.out.keep (hg.block _ HZ.out.lt (fun he => by injection he with he; omega))
  have HZ2 := Lib.hid hZ2
  have HB2 := Lib.hid (HB.out.grown hg HB.out.size (fun j hj => by cases hj; rw [Hk.out]; exact Nat.le_refl _))
  clear hW2 hg hF hZ2
  go_wp2_with (first
    | (refine wpList_load_mid rfl _ _ rfl _ _ rfl _ _ Hrg.out Tryd.underlying31 rfl iMsg ?_)
    | (refine L_storeRow (old := [.int .u64 0, .int .u64 0, .int .u64 0, .slice none 0 0, .int .u8 0, .int .u8 0, .int .u64 0, .int .u64 0, .int .u64 0, .int .u64 0, .bool false, .int .u64 0, .slice none 0 0, .int .u64 0, .int .u64 0, .slice none 0 0]) (new := [.int .u64 0, .int .u64 0, .int .u64 (m.alias : Int), .slice none 0 0, .int .u8 (m.prio : Int), .int .u8 (m.ord : Int), .int .u64 (m.sg : Int), .int .u64 (m.so : Int), .int .u64 (m.eg : Int), .int .u64 (m.eo : Int), .bool m.some, .int .u64 (m.code : Int), .slice s.rs.a s.rs.n s.rs.c, .int .u64 (m.n : Int), .int .u64 (m.ver : Int), .slice s.vs.a s.vs.n s.vs.c]) rfl 31 _ _ rfl rfl rfl HZ2.out iMsg rfl rfl (by simp [Value.oneCell']) ?_; intro W3 hz hg3))
  exact bodyPost_ret_by (results_cell_row rfl _ _ _ _ _ _ _ rfl hz Tryd.underlying31 rfl iMsg) rfl ⟨rfl, HB2.out.grown hg3 HB2.out.size (fun j hj => by cases hj; have := Hk.out; omega)⟩
set_option maxHeartbeats 4000000 in
theorem bare_1 (w : World) (m : MG) (s : ML) :
    Calls Tryd.prog 53 #[.agg (mgc m s).toArray, .int .i64 1] w fun e w' => e = .returned (.agg ([u64 0, u64 0, u64 m.alias, s.nm.v, .int .u8 (m.prio : Int), .int .u8 (m.ord : Int), u64 m.sg, u64 m.so, u64 m.eg, u64 m.eo, .bool m.some, u64 m.code, s.rs.v, u64 m.n, u64 m.ver, s.vs.v] : List Value).toArray) ∧ Below w.heap.size w w' := by
  obtain ⟨k, hk⟩ : ∃ k, w.heap.size = k := ⟨_, rfl⟩
  have hA := heap_alloc2a w (.cells (mgc m s).toArray 31) (.cells #[.int .u64 0, .int .u64 0, .int .u64 0, .slice none 0 0, .int .u8 0, .int .u8 0, .int .u64 0, .int .u64 0, .int .u64 0, .int .u64 0, .bool false, .int .u64 0, .slice none 0 0, .int .u64 0, .int .u64 0, .slice none 0 0] 31)
  have hZ := heap_alloc2b w (.cells (mgc m s).toArray 31) (.cells #[.int .u64 0, .int .u64 0, .int .u64 0, .slice none 0 0, .int .u8 0, .int .u8 0, .int .u64 0, .int .u64 0, .int .u64 0, .int .u64 0, .bool false, .int .u64 0, .slice none 0 0, .int .u64 0, .int .u64 0, .slice none 0 0] 31)
  have hb : Below w.heap.size w ((w.alloc (.cells (mgc m s).toArray 31)).alloc (.cells #[.int .u64 0, .int .u64 0, .int .u64 0, .slice none 0 0, .int .u8 0, .int .u8 0, .int .u64 0, .int .u64 0, .int .u64 0, .int .u64 0, .bool false, .int .u64 0, .slice none 0 0, .int .u64 0, .int .u64 0, .slice none 0 0] 31)) := (below_alloc w _).alloc (by simp) _
  unfold mgc u64 SA.v at *
  obtain ⟨W1, hW1⟩ : ∃ x, (w.alloc (.cells ([.int .u64 (m.kind : Int), .int .u64 (m.id : Int), .int .u64 (m.alias : Int), .slice s.nm.a s.nm.n s.nm.c, .int .u8 (m.prio : Int), .int .u8 (m.ord : Int), .int .u64 (m.sg : Int), .int .u64 (m.so : Int), .int .u64 (m.eg : Int), .int .u64 (m.eo : Int), .bool m.some, .int .u64 (m.code : Int), .slice s.rs.a s.rs.n s.rs.c, .int .u64 (m.n : Int), .int .u64 (m.ver : Int), .slice s.vs.a s.vs.n s.vs.c] : List Value).toArray 31)).alloc (.cells #[.int .u64 0, .int .u64 0, .int .u64 0, .slice none 0 0, .int .u8 0, .int .u8 0, .int .u64 0, .int .u64 0, .int .u64 0, .int .u64 0, .bool false, .int .u64 0, .slice none 0 0, .int .u64 0, .int .u64 0, .slice none 0 0] 31) = x := ⟨_, rfl⟩
  rw [hW1, hk] at hA hZ
  rw [hW1] at hb
  have HA := Lib.hid (show CR W1 k 31 [.int .u64 (m.kind : Int), .int .u64 (m.id : Int), .int .u64 (m.alias : Int), .slice s.nm.a s.nm.n s.nm.c, .int .u8 (m.prio : Int), .int .u8 (m.ord : Int), .int .u64 (m.sg : Int), .int .u64 (m.so : Int), .int .u64 (m.eg : Int), .int .u64 (m.eo : Int), .bool m.some, .int .u64 (m.code : Int), .slice s.rs.a s.rs.n s.rs.c, .int .u64 (m.n : Int), .int .u64 (m.ver : Int), .slice s.vs.a s.vs.n s.vs.c] from hA)
  have HZ := Lib.hid (show CR W1 (k + 1) 31 [.int .u64 0, .int .u64 0, .int .u64 0, .slice none 0 0, .int .u8 0, .int .u8 0, .int .u64 0, .int .u64 0, .int .u64 0, .int .u64 0, .bool false, .int .u64 0, .slice none 0 0, .int .u64 0, .int .u64 0, .slice none 0 0] from hZ)
  have HB := Lib.hid hb
  have Hk := Lib.hid hk
  clear hA hZ hb
  go_enter Tryd.func53, Tryd.ntmps53
  go_upto_region 1 with (fail)
  clear hW1 hk
  have u0 : W1.cell? ⟨k, 0, none⟩ = some (.int .u64 (m.kind : Int)) := HA.out.at_ 0
  have f0 := HA.out.fr 0
  have u1 : W1.cell? ⟨k, 1, none⟩ = some (.int .u64 (m.id : Int)) := HA.out.at_ 1
  have f1 := HA.out.fr 1
  go_upto_region 28 with (fail)
  clear u0 f0 u1 f1
  have hF := ((HA.out.set 0 (.int .u64 0)).set 1 (.int .u64 0))
  obtain ⟨W2, hW2⟩ : ∃ x, ((W1.setCell ⟨k, 0, none⟩ (.int .u64 0)).setCell ⟨k, 1, none⟩ (.int .u64 0)) = x := ⟨_, rfl⟩
  have hg : W1.grownBy W2 (some k) := by rw [← hW2]; exact (grown_trans (grownBy_setCell W1 ⟨k, 0, none⟩ (.int .u64 0)) (grownBy_setCell _ ⟨k, 1, none⟩ (.int .u64 0)))
  rw [hW2] at hF ⊢
  have Hrg := Lib.hid (show W2.rangeAt k 0 [.int .u64 0, .int .u64 0, .int .u64 (m.alias : Int), .slice s.nm.a s.nm.n s.nm.c, .int .u8 (m.prio : Int), .int .u8 (m.ord : Int), .int .u64 (m.sg : Int), .int .u64 (m.so : Int), .int .u64 (m.eg : Int), .int .u64 (m.eo : Int), .bool m.some, .int .u64 (m.code : Int), .slice s.rs.a s.rs.n s.rs.c, .int .u64 (m.n : Int), .int .u64 (m.ver : Int), .slice s.vs.a s.vs.n s.vs.c] from hF.rng)
  have hZ2 : CR W2 (k + 1) 31 [.int .u64 0, .int .u64 0, .int .u64 0, .slice none 0 0, .int .u8 0, .int .u8 0, .int .u64 0, .int .u64 0, .int .u64 0, .int .u64 0, .bool false, .int .u64 0, .slice none 0 0, .int .u64 0, .int .u64 0, .slice none 0 0] := HZ.out.keep (hg.block _ HZ.out.lt (fun he => by injection he with he; omega))
  have HZ2 := Lib.hid hZ2
  have HB2 := Lib.hid (HB.out.grown hg HB.out.size (fun j hj => by cases hj; rw [Hk.out]; exact Nat.le_refl _))
  clear hW2 hg hF hZ2
  go_wp2_with (first
    | (refine wpList_load_mid rfl _ _ rfl _ _ rfl _ _ Hrg.out Tryd.underlying31 rfl iMsg ?_)
    | (refine L_storeRow (old := [.int .u64 0, .int .u64 0, .int .u64 0, .slice none 0 0, .int .u8 0, .int .u8 0, .int .u64 0, .int .u64 0, .int .u64 0, .int .u64 0, .bool false, .int .u64 0, .slice none 0 0, .int .u64 0, .int .u64 0, .slice none 0 0]) (new := [.int .u64 0, .int .u64 0, .int .u64 (m.alias : Int), .slice s.nm.a s.nm.n s.nm.c, .int .u8 (m.prio : Int), .int .u8 (m.ord : Int), .int .u64 (m.sg : Int), .int .u64 (m.so : Int), .int .u64 (m.eg : Int), .int .u64 (m.eo : Int), .bool m.some, .int .u64 (m.code : Int), .slice s.rs.a s.rs.n s.rs.c, .int .u64 (m.n : Int), .int .u64 (m.ver : Int), .slice s.vs.a s.vs.n s.vs.c]) rfl 31 _ _ rfl rfl rfl HZ2.out iMsg rfl rfl (by simp [Value.oneCell']) ?_; intro W3 hz hg3))
  exact bodyPost_ret_by (results_cell_row rfl _ _ _ _ _ _ _ rfl hz Tryd.underlying31 rfl iMsg) rfl ⟨rfl, HB2.out.grown hg3 HB2.out.size (fun j hj => by cases hj; have := Hk.out; omega)⟩
set_option maxHeartbeats 4000000 in
theorem bare_4 (w : World) (m : MG) (s : ML) :
    Calls Tryd.prog 53 #[.agg (mgc m s).toArray, .int .i64 4] w fun e w' => e = .returned (.agg ([u64 0, u64 m.id, u64 m.alias, .slice none 0 0, .int .u8 (m.prio : Int), .int .u8 (m.ord : Int), u64 m.sg, u64 m.so, u64 m.eg, u64 m.eo, .bool m.some, u64 m.code, s.rs.v, u64 m.n, u64 m.ver, s.vs.v] : List Value).toArray) ∧ Below w.heap.size w w' := by
  obtain ⟨k, hk⟩ : ∃ k, w.heap.size = k := ⟨_, rfl⟩
  have hA := heap_alloc2a w (.cells (mgc m s).toArray 31) (.cells #[.int .u64 0, .int .u64 0, .int .u64 0, .slice none 0 0, .int .u8 0, .int .u8 0, .int .u64 0, .int .u64 0, .int .u64 0, .int .u64 0, .bool false, .int .u64 0, .slice none 0 0, .int .u64 0, .int .u64 0, .slice none 0 0] 31)
  have hZ := heap_alloc2b w (.cells (mgc m s).toArray 31) (.cells #[.int .u64 0, .int .u64 0, .int .u64 0, .slice none 0 0, .int .u8 0, .int .u8 0, .int .u64 0, .int .u64 0, .int .u64 0, .int .u64 0, .bool false, .int .u64 0, .slice none 0 0, .int .u64 0, .int .u64 0, .slice none 0 0] 31)
  have hb : Below w.heap.size w ((w.alloc (.cells (mgc m s).toArray 31)).alloc (.cells #[.int .u64 0, .int .u64 0, .int .u64 0, .slice none 0 0, .int .u8 0, .int .u8 0, .int .u64 0, .int .u64 0, .int .u64 0, .int .u64 0, .bool false, .int .u64 0, .slice none 0 0, .int .u64 0, .int .u64 0, .slice none 0 0] 31)) := (below_alloc w _).alloc (by simp) _
  unfold mgc u64 SA.v at *
  obtain ⟨W1, hW1⟩ : ∃ x, (w.alloc (.cells ([.int .u64 (m.kind : Int), .int .u64 (m.id : Int), .int .u64 (m.alias : Int), .slice s.nm.a s.nm.n s.nm.c, .int .u8 (m.prio : Int), .int .u8 (m.ord : Int), .int .u64 (m.sg : Int), .int .u64 (m.so : Int), .int .u64 (m.eg : Int), .int .u64 (m.eo : Int), .bool m.some, .int .u64 (m.code : Int), .slice s.rs.a s.rs.n s.rs.c, .int .u64 (m.n : Int), .int .u64 (m.ver : Int), .slice s.vs.a s.vs.n s.vs.c] : List Value).toArray 31)).alloc (.cells #[.int .u64 0, .int .u64 0, .int .u64 0, .slice none 0 0, .int .u8 0, .int .u8 0, .int .u64 0, .int .u64 0, .int .u64 0, .int .u64 0, .bool false, .int .u64 0, .slice none 0 0, .int .u64 0, .int .u64 0, .slice none 0 0] 31) = x := ⟨_, rfl⟩
  rw [hW1, hk] at hA hZ
  rw [hW1] at hb
  have HA := Lib.hid (show CR W1 k 31 [.int .u64 (m.kind : Int), .int .u64 (m.id : Int), .int .u64 (m.alias : Int), .slice s.nm.a s.nm.n s.nm.c, .int .u8 (m.prio : Int), .int .u8 (m.ord : Int), .int .u64 (m.sg : Int), .int .u64 (m.so : Int), .int .u64 (m.eg : Int), .int .u64 (m.eo : Int), .bool m.some, .int .u64 (m.code : Int), .slice s.rs.a s.rs.n s.rs.c, .int .u64 (m.n : Int), .int .u64 (m.ver : Int), .slice s.vs.a s.vs.n s.vs.c] from hA)
  have HZ := Lib.hid (show CR W1 (k + 1) 31 [.int .u64 0, .int .u64 0, .int .u64 0, .slice none 0 0, .int .u8 0, .int .u8 0, .int .u64 0, .int .u64 0, .int .u64 0, .int .u64 0, .bool false, .int .u64 0, .slice none 0 0, .int .u64 0, .int .u64 0, .slice none 0 0] from hZ)
  have HB := Lib.hid hb
  have Hk := Lib.hid hk
  clear hA hZ hb
  go_enter Tryd.func53, Tryd.ntmps53
  go_upto_region 1 with (fail)
  clear hW1 hk
  have u0 : W1.cell? ⟨k, 0, none⟩ = some (.int .u64 (m.kind : Int)) := HA.out.at_ 0
  have f0 := HA.out.fr 0
  have u3 : W1.cell? ⟨k, 3, none⟩ = some (.slice s.nm.a s.nm.n s.nm.c) := HA.out.at_ 3
  have f3 := HA.out.fr 3
  go_upto_region 28 with (fail)
  clear u0 f0 u3 f3
  have hF := ((HA.out.set 0 (.int .u64 0)).set 3 (.slice none 0 0))
  obtain ⟨W2, hW2⟩ : ∃ x, ((W1.setCell ⟨k, 0, none⟩ (.int .u64 0)).setCell ⟨k, 3, none⟩ (.slice none 0 0)) = x := ⟨_, rfl⟩
  have hg : W1.grownBy W2 (some k) := by rw [← hW2]; exact (grown_trans (grownBy_setCell W1 ⟨k, 0, none⟩ (.int .u64 0)) (grownBy_setCell _ ⟨k, 3, none⟩ (.slice none 0 0)))
  rw [hW2] at hF ⊢
  have Hrg := Lib.hid (show W2.rangeAt k 0 [.int .u64 0, .int .u64 (m.id : Int), .int .u64 (m.alias : Int), .slice none 0 0, .int .u8 (m.prio : Int), .int .u8 (m.ord : Int), .int .u64 (m.sg : Int), .int .u64 (m.so : Int), .int .u64 (m.eg : Int), .int .u64 (m.eo : Int), .bool m.some, .int .u64 (m.code : Int), .slice s.rs.a s.rs.n s.rs.c, .int .u64 (m.n : Int), .int .u64 (m.ver : Int), .slice s.vs.a s.vs.n s.vs.c] from hF.rng)
  have hZ2 : CR W2 (k + 1) 31 [.int .u64 0, .int .u64 0, .int .u64 0, .slice none 0 0, .int .u8 0, .int .u8 0, .int .u64 0, .int .u64 0, .int .u64 0, .int .u64 0, .bool false, .int .u64 0, .slice none 0 0, .int .u64 0, .int .u64 0, .slice none 0 0] := HZ.out.keep (hg.block _ HZ.out.lt (fun he => by injection he with he; omega))
  have HZ2 := Lib.hid hZ2
  have HB2 := Lib.hid (HB.out.grown hg HB.out.size (fun j hj => by cases hj; rw [Hk.out]; exact Nat.le_refl _))
  clear hW2 hg hF hZ2
  go_wp2_with (first
    | (refine wpList_load_mid rfl _ _ rfl _ _ rfl _ _ Hrg.out Tryd.underlying31 rfl iMsg ?_)
    | (refine L_storeRow (old := [.int .u64 0, .int .u64 0, .int .u64 0, .slice none 0 0, .int .u8 0, .int .u8 0, .int .u64 0, .int .u64 0, .int .u64 0, .int .u64 0, .bool false, .int .u64 0, .slice none 0 0, .int .u64 0, .int .u64 0, .slice none 0 0]) (new := [.int .u64 0, .int .u64 (m.id : Int), .int .u64 (m.alias : Int), .slice none 0 0, .int .u8 (m.prio : Int), .int .u8 (m.ord : Int), .int .u64 (m.sg : Int), .int .u64 (m.so : Int), .int .u64 (m.eg : Int), .int .u64 (m.eo : Int), .bool m.some, .int .u64 (m.code : Int), .slice s.rs.a s.rs.n s.rs.c, .int .u64 (m.n : Int), .int .u64 (m.ver : Int), .slice s.vs.a s.vs.n s.vs.c]) rfl 31 _ _ rfl rfl rfl HZ2.out iMsg rfl rfl (by simp [Value.oneCell']) ?_; intro W3 hz hg3))
  exact bodyPost_ret_by (results_cell_row rfl _ _ _ _ _ _ _ rfl hz Tryd.underlying31 rfl iMsg) rfl ⟨rfl, HB2.out.grown hg3 HB2.out.size (fun j hj => by cases hj; have := Hk.out; omega)⟩
set_option maxHeartbeats 4000000 in
theorem bare_0 (w : World) (m : MG) (s : ML) :
    Calls Tryd.prog 53 #[.agg (mgc m s).toArray, .int .i64 0] w fun e w' => e = .returned (.agg ([u64 0, u64 m.id, u64 m.alias, s.nm.v, .int .u8 (m.prio : Int), .int .u8 (m.ord : Int), u64 m.sg, u64 m.so, u64 m.eg, u64 m.eo, .bool m.some, u64 m.code, s.rs.v, u64 m.n, u64 m.ver, s.vs.v] : List Value).toArray) ∧ Below w.heap.size w w' := by
  obtain ⟨k, hk⟩ : ∃ k, w.heap.size = k := ⟨_, rfl⟩
  have hA := heap_alloc2a w (.cells (mgc m s).toArray 31) (.cells #[.int .u64 0, .int .u64 0, .int .u64 0, .slice none 0 0, .int .u8 0, .int .u8 0, .int .u64 0, .int .u64 0, .int .u64 0, .int .u64 0, .bool false, .int .u64 0, .slice none 0 0, .int .u64 0, .int .u64 0, .slice none 0 0] 31)
  have hZ := heap_alloc2b w (.cells (mgc m s).toArray 31) (.cells #[.int .u64 0, .int .u64 0, .int .u64 0, .slice none 0 0, .int .u8 0, .int .u8 0, .int .u64 0, .int .u64 0, .int .u64 0, .int .u64 0, .bool false, .int .u64 0, .slice none 0 0, .int .u64 0, .int .u64 0, .slice none 0 0] 31)
  have hb : Below w.heap.size w ((w.alloc (.cells (mgc m s).toArray 31)).alloc (.cells #[.int .u64 0, .int .u64 0, .int .u64 0, .slice none 0 0, .int .u8 0, .int .u8 0, .int .u64 0, .int .u64 0, .int .u64 0, .int .u64 0, .bool false, .int .u64 0, .slice none 0 0, .int .u64 0, .int .u64 0, .slice none 0 0] 31)) := (below_alloc w _).alloc (by simp) _
  unfold mgc u64 SA.v at *
  obtain ⟨W1, hW1⟩ : ∃ x, (w.alloc (.cells ([.int .u64 (m.kind : Int), .int .u64 (m.id : Int), .int .u64 (m.alias : Int), .slice s.nm.a s.nm.n s.nm.c, .int .u8 (m.prio : Int), .int .u8 (m.ord : Int), .int .u64 (m.sg : Int), .int .u64 (m.so : Int), .int .u64 (m.eg : Int), .int .u64 (m.eo : Int), .bool m.some, .int .u64 (m.code : Int), .slice s.rs.a s.rs.n s.rs.c, .int .u64 (m.n : Int), .int .u64 (m.ver : Int), .slice s.vs.a s.vs.n s.vs.c] : List Value).toArray 31)).alloc (.cells #[.int .u64 0, .int .u64 0, .int .u64 0, .slice none 0 0, .int .u8 0, .int .u8 0, .int .u64 0, .int .u64 0, .int .u64 0, .int .u64 0, .bool false, .int .u64 0, .slice none 0 0, .int .u64 0, .int .u64 0, .slice none 0 0] 31) = x := ⟨_, rfl⟩
  rw [hW1, hk] at hA hZ
  rw [hW1] at hb
  have HA := Lib.hid (show CR W1 k 31 [.int .u64 (m.kind : Int), .int .u64 (m.id : Int), .int .u64 (m.alias : Int), .slice s.nm.a s.nm.n s.nm.c, .int .u8 (m.prio : Int), .int .u8 (m.ord : Int), .int .u64 (m.sg : Int), .int .u64 (m.so : Int), .int .u64 (m.eg : Int), .int .u64 (m.eo : Int), .bool m.some, .int .u64 (m.code : Int), .slice s.rs.a s.rs.n s.rs.c, .int .u64 (m.n : Int), .int .u64 (m.ver : Int), .slice s.vs.a s.vs.n s.vs.c] from hA)
  have HZ := Lib.hid (show CR W1 (k + 1) 31 [.int .u64 0, .int .u64 0, .int .u64 0, .slice none 0 0, .int .u8 0, .int .u8 0, .int .u64 0, .int .u64 0, .int .u64 0, .int .u64 0, .bool false, .int .u64 0, .slice none 0 0, .int .u64 0, .int .u64 0, .slice none 0 0] from hZ)
  have HB := Lib.hid hb
  have Hk := Lib.hid hk
  clear hA hZ hb
  go_enter Tryd.func53, Tryd.ntmps53
  go_upto_region 1 with (fail)
  clear hW1 hk
  have u0 : W1.cell? ⟨k, 0, none⟩ = some (.int .u64 (m.kind : Int)) := HA.out.at_ 0
  have f0 := HA.out.fr 0
  go_upto_region 28 with (fail)
  clear u0 f0
  have hF := (HA.out.set 0 (.int .u64 0))
  obtain ⟨W2, hW2⟩ : ∃ x, (W1.setCell ⟨k, 0, none⟩ (.int .u64 0)) = x := ⟨_, rfl⟩
  have hg : W1.grownBy W2 (some k) := by rw [← hW2]; exact (grownBy_setCell W1 ⟨k, 0, none⟩ (.int .u64 0))
  rw [hW2] at hF ⊢
  have Hrg := Lib.hid (show W2.rangeAt k 0 [.int .u64 0, .int .u64 (m.id : Int), .int .u64 (m.alias : Int), .slice s.nm.a s.nm.n s.nm.c, .int .u8 (m.prio : Int), .int .u8 (m.ord : Int), .int .u64 (m.sg : Int), .int .u64 (m.so : Int), .int .u64 (m.eg : Int), .int .u64 (m.eo : Int), .bool m.some, .int .u64 (m.code : Int), .slice s.rs.a s.rs.n s.rs.c, .int .u64 (m.n : Int), .int .u64 (m.ver : Int), .slice s.vs.a s.vs.n s.vs.c] from hF.rng)
  have hZ2 : CR W2 (k + 1) 31 [.int .u64 0, .int .u64 0, .int .u64 0, .slice none 0 0, .int .u8 0, .int .u8 0, .int .u64 0, .int .u64 0, .int .u64 0, .int .u64 0, .bool false, .int .u64 0, .slice none 0 0, .int .u64 0, .int .u64 0, .slice none 0 0] := HZ.out.keep (hg.block _ HZ.out.lt (fun he => by injection he with he; omega))
  have HZ2 := Lib.hid hZ2
  have HB2 := Lib.hid (HB.out.grown hg HB.out.size (fun j hj => by cases hj; rw [Hk.out]; exact Nat.le_refl _))
  clear hW2 hg hF hZ2
  go_wp2_with (first
    | (refine wpList_load_mid rfl _ _ rfl _ _ rfl _ _ Hrg.out Tryd.underlying31 rfl iMsg ?_)
    | (refine L_storeRow (old := [.int .u64 0, .int .u64 0, .int .u64 0, .slice none 0 0, .int .u8 0, .int .u8 0, .int .u64 0, .int .u64 0, .int .u64 0, .int .u64 0, .bool false, .int .u64 0, .slice none 0 0, .int .u64 0, .int .u64 0, .slice none 0 0]) (new := [.int .u64 0, .int .u64 (m.id : Int), .int .u64 (m.alias : Int), .slice s.nm.a s.nm.n s.nm.c, .int .u8 (m.prio : Int), .int .u8 (m.ord : Int), .int .u64 (m.sg : Int), .int .u64 (m.so : Int), .int .u64 (m.eg : Int), .int .u64 (m.eo : Int), .bool m.some, .int .u64 (m.code : Int), .slice s.rs.a s.rs.n s.rs.c, .int .u64 (m.n : Int), .int .u64 (m.ver : Int), .slice s.vs.a s.vs.n s.vs.c]) rfl 31 _ _ rfl rfl rfl HZ2.out iMsg rfl rfl (by simp [Value.oneCell']) ?_; intro W3 hz hg3))
  exact bodyPost_ret_by (results_cell_row rfl _ _ _ _ _ _ _ rfl hz Tryd.underlying31 rfl iMsg) rfl ⟨rfl, HB2.out.grown hg3 HB2.out.size (fun j hj => by cases hj; have := Hk.out; omega)⟩
set_option maxHeartbeats 4000000 in
theorem bare_2048 (w : World) (m : MG) (s : ML) :
    Calls Tryd.prog 53 #[.agg (mgc m s).toArray, .int .i64 2048] w fun e w' => e = .returned (.agg ([u64 0, u64 m.id, u64 m.alias, s.nm.v, .int .u8 (m.prio : Int), .int .u8 (m.ord : Int), u64 m.sg, u64 m.so, u64 m.eg, u64 m.eo, .bool m.some, u64 m.code, s.rs.v, u64 0, u64 m.ver, s.vs.v] : List Value).toArray) ∧ Below w.heap.size w w' := by
  obtain ⟨k, hk⟩ : ∃ k, w.heap.size = k := ⟨_, rfl⟩
  have hA := heap_alloc2a w (.cells (mgc m s).toArray 31) (.cells #[.int .u64 0, .int .u64 0, .int .u64 0, .slice none 0 0, .int .u8 0, .int .u8 0, .int .u64 0, .int .u64 0, .int .u64 0, .int .u64 0, .bool false, .int .u64 0, .slice none 0 0, .int .u64 0, .int .u64 0, .slice none 0 0] 31)
  have hZ := heap_alloc2b w (.cells (mgc m s).toArray 31) (.cells #[.int .u64 0, .int .u64 0, .int .u64 0, .slice none 0 0, .int .u8 0, .int .u8 0, .int .u64 0, .int .u64 0, .int .u64 0, .int .u64 0, .bool false, .int .u64 0, .slice none 0 0, .int .u64 0, .int .u64 0, .slice none 0 0] 31)
  have hb : Below w.heap.size w ((w.alloc (.cells (mgc m s).toArray 31)).alloc (.cells #[.int .u64 0, .int .u64 0, .int .u64 0, .slice none 0 0, .int .u8 0, .int .u8 0, .int .u64 0, .int .u64 0, .int .u64 0, .int .u64 0, .bool false, .int .u64 0, .slice none 0 0, .int .u64 0, .int .u64 0, .slice none 0 0] 31)) := (below_alloc w _).alloc (by simp) _
  unfold mgc u64 SA.v at *
  obtain ⟨W1, hW1⟩ : ∃ x, (w.alloc (.cells ([.int .u64 (m.kind : Int), .int .u64 (m.id : Int), .int .u64 (m.alias : Int), .slice s.nm.a s.nm.n s.nm.c, .int .u8 (m.prio : Int), .int .u8 (m.ord : Int), .int .u64 (m.sg : Int), .int .u64 (m.so : Int), .int .u64 (m.eg : Int), .int .u64 (m.eo : Int), .bool m.some, .int .u64 (m.code : Int), .slice s.rs.a s.rs.n s.rs.c, .int .u64 (m.n : Int), .int .u64 (m.ver : Int), .slice s.vs.a s.vs.n s.vs.c] : List Value).toArray 31)).alloc (.cells #[.int .u64 0, .int .u64 0, .int .u64 0, .slice none 0 0, .int .u8 0, .int .u8 0, .int .u64 0, .int .u64 0, .int .u64 0, .int .u64 0, .bool false, .int .u64 0, .slice none 0 0, .int .u64 0, .int .u64 0, .slice none 0 0] 31) = x := ⟨_, rfl⟩
  rw [hW1, hk] at hA hZ
  rw [hW1] at hb
  have HA := Lib.hid (show CR W1 k 31 [.int .u64 (m.kind : Int), .int .u64 (m.id : Int), .int .u64 (m.alias : Int), .slice s.nm.a s.nm.n s.nm.c, .int .u8 (m.prio : Int), .int .u8 (m.ord : Int), .int .u64 (m.sg : Int), .int .u64 (m.so : Int), .int .u64 (m.eg : Int), .int .u64 (m.eo : Int), .bool m.some, .int .u64 (m.code : Int), .slice s.rs.a s.rs.n s.rs.c, .int .u64 (m.n : Int), .int .u64 (m.ver : Int), .slice s.vs.a s.vs.n s.vs.c] from hA)
  have HZ := Lib.hid (show CR W1 (k + 1) 31 [.int .u64 0, .int .u64 0, .int .u64 0, .slice none 0 0, .int .u8 0, .int .u8 0, .int .u64 0, .int .u64 0, .int .u64 0, .int .u64 0, .bool false, .int .u64 0, .slice none 0 0, .int .u64 0, .int .u64 0, .slice none 0 0] from hZ)
  have HB := Lib.hid hb
  have Hk := Lib.hid hk
  clear hA hZ hb
  go_enter Tryd.func53, Tryd.ntmps53
  go_upto_region 1 with (fail)
  clear hW1 hk
  have u0 : W1.cell? ⟨k, 0, none⟩ = some (.int .u64 (m.kind : Int)) := HA.out.at_ 0
  have f0 := HA.out.fr 0
  have u13 : W1.cell? ⟨k, 13, none⟩ = some (.int .u64 (m.n : Int)) := HA.out.at_ 13
  have f13 := HA.out.fr 13
  go_upto_region 28 with (fail)
  clear u0 f0 u13 f13
  have hF := ((HA.out.set 0 (.int .u64 0)).set 13 (.int .u64 0))
  obtain ⟨W2, hW2⟩ : ∃ x, ((W1.setCell ⟨k, 0, none⟩ (.int .u64 0)).setCell ⟨k, 13, none⟩ (.int .u64 0)) = x := ⟨_, rfl⟩
  have hg : W1.grownBy W2 (some k) := by rw [← hW2]; exact (grown_trans (grownBy_setCell W1 ⟨k, 0, none⟩ (.int .u64 0)) (grownBy_setCell _ ⟨k, 13, none⟩ (.int .u64 0)))
  rw [hW2] at hF ⊢
  have Hrg := Lib.hid (show W2.rangeAt k 0 [.int .u64 0, .int .u64 (m.id : Int), .int .u64 (m.alias : Int), .slice s.nm.a s.nm.n s.nm.c, .int .u8 (m.prio : Int), .int .u8 (m.ord : Int), .int .u64 (m.sg : Int), .int .u64 (m.so : Int), .int .u64 (m.eg : Int), .int .u64 (m.eo : Int), .bool m.some, .int .u64 (m.code : Int), .slice s.rs.a s.rs.n s.rs.c, .int .u64 0, .int .u64 (m.ver : Int), .slice s.vs.a s.vs.n s.vs.c] from hF.rng)
  have hZ2 : CR W2 (k + 1) 31 [.int .u64 0, .int .u64 0, .int .u64 0, .slice none 0 0, .int .u8 0, .int .u8 0, .int .u64 0, .int .u64 0, .int .u64 0, .int .u64 0, .bool false, .int .u64 0, .slice none 0 0, .int .u64 0, .int .u64 0, .slice none 0 0] := HZ.out.keep (hg.block _ HZ.out.lt (fun he => by injection he with he; omega))
  have HZ2 := Lib.hid hZ2
  have HB2 := Lib.hid (HB.out.grown hg HB.out.size (fun j hj => by cases hj; rw [Hk.out]; exact Nat.le_refl _))
  clear hW2 hg hF hZ2
  go_wp2_with (first
    | (refine wpList_load_mid rfl _ _ rfl _ _ rfl _ _ Hrg.out Tryd.underlying31 rfl iMsg ?_)
    | (refine L_storeRow (old := [.int .u64 0, .int .u64 0, .int .u64 0, .slice none 0 0, .int .u8 0, .int .u8 0, .int .u64 0, .int .u64 0, .int .u64 0, .int .u64 0, .bool false, .int .u64 0, .slice none 0 0, .int .u64 0, .int .u64 0, .slice none 0 0]) (new := [.int .u64 0, .int .u64 (m.id : Int), .int .u64 (m.alias : Int), .slice s.nm.a s.nm.n s.nm.c, .int .u8 (m.prio : Int), .int .u8 (m.ord : Int), .int .u64 (m.sg : Int), .int .u64 (m.so : Int), .int .u64 (m.eg : Int), .int .u64 (m.eo : Int), .bool m.some, .int .u64 (m.code : Int), .slice s.rs.a s.rs.n s.rs.c, .int .u64 0, .int .u64 (m.ver : Int), .slice s.vs.a s.vs.n s.vs.c]) rfl 31 _ _ rfl rfl rfl HZ2.out iMsg rfl rfl (by simp [Value.oneCell']) ?_; intro W3 hz hg3))
  exact bodyPost_ret_by (results_cell_row rfl _ _ _ _ _ _ _ rfl hz Tryd.underlying31 rfl iMsg) rfl ⟨rfl, HB2.out.grown hg3 HB2.out.size (fun j hj => by cases hj; have := Hk.out; omega)⟩
set_option maxHeartbeats 4000000 in
theorem bare_109 (w : World) (m : MG) (s : ML) :
    Calls Tryd.prog 53 #[.agg (mgc m s).toArray, .int .i64 109] w fun e w' => e = .returned (.agg ([u64 0, u64 0, u64 m.alias, .slice none 0 0, .int .u8 0, .int .u8 (m.ord : Int), u64 0, u64 0, u64 0, u64 0, .bool m.some, u64 m.code, s.rs.v, u64 m.n, u64 m.ver, s.vs.v] : List Value).toArray) ∧ Below w.heap.size w w' := by
  obtain ⟨k, hk⟩ : ∃ k, w.heap.size = k := ⟨_, rfl⟩
  have hA := heap_alloc2a w (.cells (mgc m s).toArray 31) (.cells #[.int .u64 0, .int .u64 0, .int .u64 0, .slice none 0 0, .int .u8 0, .int .u8 0, .int .u64 0, .int .u64 0, .int .u64 0, .int .u64 0, .bool false, .int .u64 0, .slice none 0 0, .int .u64 0, .int .u64 0, .slice none 0 0] 31)
  have hZ := heap_alloc2b w (.cells (mgc m s).toArray 31) (.cells #[.int .u64 0, .int .u64 0, .int .u64 0, .slice none 0 0, .int .u8 0, .int .u8 0, .int .u64 0, .int .u64 0, .int .u64 0, .int .u64 0, .bool false, .int .u64 0, .slice none 0 0, .int .u64 0, .int .u64 0, .slice none 0 0] 31)
  have hb : Below w.heap.size w ((w.alloc (.cells (mgc m s).toArray 31)).alloc (.cells #[.int .u64 0, .int .u64 0, .int .u64 0, .slice none 0 0, .int .u8 0, .int .u8 0, .int .u64 0, .int .u64 0, .int .u64 0, .int .u64 0, .bool false, .int .u64 0, .slice none 0 0, .int .u64 0, .int .u64 0, .slice none 0 0] 31)) := (below_alloc w _).alloc (by simp) _
  unfold mgc u64 SA.v at *
  obtain ⟨W1, hW1⟩ : ∃ x, (w.alloc (.cells ([.int .u64 (m.kind : Int), .int .u64 (m.id : Int), .int .u64 (m.alias : Int), .slice s.nm.a s.nm.n s.nm.c, .int .u8 (m.prio : Int), .int .u8 (m.ord : Int), .int .u64 (m.sg : Int), .int .u64 (m.so : Int), .int .u64 (m.eg : Int), .int .u64 (m.eo : Int), .bool m.some, .int .u64 (m.code : Int), .slice s.rs.a s.rs.n s.rs.c, .int .u64 (m.n : Int), .int .u64 (m.ver : Int), .slice s.vs.a s.vs.n s.vs.c] : List Value).toArray 31)).alloc (.cells #[.int .u64 0, .int .u64 0, .int .u64 0, .slice none 0 0, .int .u8 0, .int .u8 0, .int .u64 0, .int .u64 0, .int .u64 0, .int .u64 0, .bool false, .int .u64 0, .slice none 0 0, .int .u64 0, .int .u64 0, .slice none 0 0] 31) = x := ⟨_, rfl⟩
  rw [hW1, hk] at hA hZ
  rw [hW1] at hb
  have HA := Lib.hid (show CR W1 k 31 [.int .u64 (m.kind : Int), .int .u64 (m.id : Int), .int .u64 (m.alias : Int), .slice s.nm.a s.nm.n s.nm.c, .int .u8 (m.prio : Int), .int .u8 (m.ord : Int), .int .u64 (m.sg : Int), .int .u64 (m.so : Int), .int .u64 (m.eg : Int), .int .u64 (m.eo : Int), .bool m.some, .int .u64 (m.code : Int), .slice s.rs.a s.rs.n s.rs.c, .int .u64 (m.n : Int), .int .u64 (m.ver : Int), .slice s.vs.a s.vs.n s.vs.c] from hA)
  have HZ := Lib.hid (show CR W1 (k + 1) 31 [.int .u64 0, .int .u64 0, .int .u64 0, .slice none 0 0, .int .u8 0, .int .u8 0, .int .u64 0, .int .u64 0, .int .u64 0, .int .u64 0, .bool false, .int .u64 0, .slice none 0 0, .int .u64 0, .int .u64 0, .slice none 0 0] from hZ)
  have HB := Lib.hid hb
  have Hk := Lib.hid hk
  clear hA hZ hb
  go_enter Tryd.func53, Tryd.ntmps53
  go_upto_region 1 with (fail)
  clear hW1 hk
  have u0 : W1.cell? ⟨k, 0, none⟩ = some (.int .u64 (m.kind : Int)) := HA.out.at_ 0
  have f0 := HA.out.fr 0
  have u1 : W1.cell? ⟨k, 1, none⟩ = some (.int .u64 (m.id : Int)) := HA.out.at_ 1
  have f1 := HA.out.fr 1
  have u3 : W1.cell? ⟨k, 3, none⟩ = some (.slice s.nm.a s.nm.n s.nm.c) := HA.out.at_ 3
  have f3 := HA.out.fr 3
  have u4 : W1.cell? ⟨k, 4, none⟩ = some (.int .u8 (m.prio : Int)) := HA.out.at_ 4
  have f4 := HA.out.fr 4
  have u6 : W1.cell? ⟨k, 6, none⟩ = some (.int .u64 (m.sg : Int)) := HA.out.at_ 6
  have f6 := HA.out.fr 6
  have u7 : W1.cell? ⟨k, 7, none⟩ = some (.int .u64 (m.so : Int)) := HA.out.at_ 7
  have f7 := HA.out.fr 7
  have u8 : W1.cell? ⟨k, 8, none⟩ = some (.int .u64 (m.eg : Int)) := HA.out.at_ 8
  have f8 := HA.out.fr 8
  have u9 : W1.cell? ⟨k, 9, none⟩ = some (.int .u64 (m.eo : Int)) := HA.out.at_ 9
  have f9 := HA.out.fr 9
  go_upto_region 28 with (fail)
  clear u0 f0 u1 f1 u3 f3 u4 f4 u6 f6 u7 f7 u8 f8 u9 f9
  have hF := ((((((((HA.out.set 0 (.int .u64 0)).set 1 (.int .u64 0)).set 3 (.slice none 0 0)).set 4 (.int .u8 0)).set 6 (.int .u64 0)).set 7 (.int .u64 0)).set 8 (.int .u64 0)).set 9 (.int .u64 0))
  obtain ⟨W2, hW2⟩ : ∃ x, ((((((((W1.setCell ⟨k, 0, none⟩ (.int .u64 0)).setCell ⟨k, 1, none⟩ (.int .u64 0)).setCell ⟨k, 3, none⟩ (.slice none 0 0)).setCell ⟨k, 4, none⟩ (.int .u8 0)).setCell ⟨k, 6, none⟩ (.int .u64 0)).setCell ⟨k, 7, none⟩ (.int .u64 0)).setCell ⟨k, 8, none⟩ (.int .u64 0)).setCell ⟨k, 9, none⟩ (.int .u64 0)) = x := ⟨_, rfl⟩
  have hg : W1.grownBy W2 (some k) := by rw [← hW2]; exact (grown_trans (grown_trans (grown_trans (grown_trans (grown_trans (grown_trans (grown_trans (grownBy_setCell W1 ⟨k, 0, none⟩ (.int .u64 0)) (grownBy_setCell _ ⟨k, 1, none⟩ (.int .u64 0))) (grownBy_setCell _ ⟨k, 3, none⟩ (.slice none 0 0))) (grownBy_setCell _ ⟨k, 4, none⟩ (.int .u8 0))) (grownBy_setCell _ ⟨k, 6, none⟩ (.int .u64 0))) (grownBy_setCell _ ⟨k, 7, none⟩ (.int .u64 0))) (grownBy_setCell _ ⟨k, 8, none⟩ (.int .u64 0))) (grownBy_setCell _ ⟨k, 9, none⟩ (.int .u64 0)))
  rw [hW2] at hF ⊢
  have Hrg := Lib.hid (show W2.rangeAt k 0 [.int .u64 0, .int .u64 0, .int .u64 (m.alias : Int), .slice none 0 0, .int .u8 0, .int .u8 (m.ord : Int), .int .u64 0, .int .u64 0, .int .u64 0, .int .u64 0, .bool m.some, .int .u64 (m.code : Int), .slice s.rs.a s.rs.n s.rs.c, .int .u64 (m.n : Int), .int .u64 (m.ver : Int), .slice s.vs.a s.vs.n s.vs.c] from hF.rng)
  have hZ2 : CR W2 (k + 1) 31 [.int .u64 0, .int .u64 0, .int .u64 0, .slice none 0 0, .int .u8 0, .int .u8 0, .int .u64 0, .int .u64 0, .int .u64 0, .int .u64 0, .bool false, .int .u64 0, .slice none 0 0, .int .u64 0, .int .u64 0, .slice none 0 0] := HZ.out.keep (hg.block _ HZ.out.lt (fun he => by injection he with he; omega))
  have HZ2 := Lib.hid hZ2
  have HB2 := Lib.hid (HB.out.grown hg HB.out.size (fun j hj => by cases hj; rw [Hk.out]; exact Nat.le_refl _))
  clear hW2 hg hF hZ2
  go_wp2_with (first
    | (refine wpList_load_mid rfl _ _ rfl _ _ rfl _ _ Hrg.out Tryd.underlying31 rfl iMsg ?_)
    | (refine L_storeRow (old := [.int .u64 0, .int .u64 0, .int .u64 0, .slice none 0 0, .int .u8 0, .int .u8 0, .int .u64 0, .int .u64 0, .int .u64 0, .int .u64 0, .bool false, .int .u64 0, .slice none 0 0, .int .u64 0, .int .u64 0, .slice none 0 0]) (new := [.int .u64 0, .int .u64 0, .int .u64 (m.alias : Int), .slice none 0 0, .int .u8 0, .int .u8 (m.ord : Int), .int .u64 0, .int .u64 0, .int .u64 0, .int .u64 0, .bool m.some, .int .u64 (m.code : Int), .slice s.rs.a s.rs.n s.rs.c, .int .u64 (m.n : Int), .int .u64 (m.ver : Int), .slice s.vs.a s.vs.n s.vs.c]) rfl 31 _ _ rfl rfl rfl HZ2.out iMsg rfl rfl (by simp [Value.oneCell']) ?_; intro W3 hz hg3))
  exact bodyPost_ret_by (results_cell_row rfl _ _ _ _ _ _ _ rfl hz Tryd.underlying31 rfl iMsg) rfl ⟨rfl, HB2.out.grown hg3 HB2.out.size (fun j hj => by cases hj; have := Hk.out; omega)⟩
set_option maxHeartbeats 4000000 in
theorem bare_10240 (w : World) (m : MG) (s : ML) :
    Calls Tryd.prog 53 #[.agg (mgc m s).toArray, .int .i64 10240] w fun e w' => e = .returned (.agg ([u64 0, u64 m.id, u64 m.alias, s.nm.v, .int .u8 (m.prio : Int), .int .u8 (m.ord : Int), u64 m.sg, u64 m.so, u64 m.eg, u64 m.eo, .bool m.some, u64 m.code, s.rs.v, u64 0, u64 m.ver, .slice none 0 0] : List Value).toArray) ∧ Below w.heap.size w w' := by
  obtain ⟨k, hk⟩ : ∃ k, w.heap.size = k := ⟨_, rfl⟩
  have hA := heap_alloc2a w (.cells (mgc m s).toArray 31) (.cells #[.int .u64 0, .int .u64 0, .int .u64 0, .slice none 0 0, .int .u8 0, .int .u8 0, .int .u64 0, .int .u64 0, .int .u64 0, .int .u64 0, .bool false, .int .u64 0, .slice none 0 0, .int .u64 0, .int .u64 0, .slice none 0 0] 31)
  have hZ := heap_alloc2b w (.cells (mgc m s).toArray 31) (.cells #[.int .u64 0, .int .u64 0, .int .u64 0, .slice none 0 0, .int .u8 0, .int .u8 0, .int .u64 0, .int .u64 0, .int .u64 0, .int .u64 0, .bool false, .int .u64 0, .slice none 0 0, .int .u64 0, .int .u64 0, .slice none 0 0] 31)
  have hb : Below w.heap.size w ((w.alloc (.cells (mgc m s).toArray 31)).alloc (.cells #[.int .u64 0, .int .u64 0, .int .u64 0, .slice none 0 0, .int .u8 0, .int .u8 0, .int .u64 0, .int .u64 0, .int .u64 0, .int .u64 0, .bool false, .int .u64 0, .slice none 0 0, .int .u64 0, .int .u64 0, .slice none 0 0] 31)) := (below_alloc w _).alloc (by simp) _
  unfold mgc u64 SA.v at *
  obtain ⟨W1, hW1⟩ : ∃ x, (w.alloc (.cells ([.int .u64 (m.kind : Int), .int .u64 (m.id : Int), .int .u64 (m.alias : Int), .slice s.nm.a s.nm.n s.nm.c, .int .u8 (m.prio : Int), .int .u8 (m.ord : Int), .int .u64 (m.sg : Int), .int .u64 (m.so : Int), .int .u64 (m.eg : Int), .int .u64 (m.eo : Int), .bool m.some, .int .u64 (m.code : Int), .slice s.rs.a s.rs.n s.rs.c, .int .u64 (m.n : Int), .int .u64 (m.ver : Int), .slice s.vs.a s.vs.n s.vs.c] : List Value).toArray 31)).alloc (.cells #[.int .u64 0, .int .u64 0, .int .u64 0, .slice none 0 0, .int .u8 0, .int .u8 0, .int .u64 0, .int .u64 0, .int .u64 0, .int .u64 0, .bool false, .int .u64 0, .slice none 0 0, .int .u64 0, .int .u64 0, .slice none 0 0] 31) = x := ⟨_, rfl⟩
  rw [hW1, hk] at hA hZ
  rw [hW1] at hb
  have HA := Lib.hid (show CR W1 k 31 [.int .u64 (m.kind : Int), .int .u64 (m.id : Int), .int .u64 (m.alias : Int), .slice s.nm.a s.nm.n s.nm.c, .int .u8 (m.prio : Int), .int .u8 (m.ord : Int), .int .u64 (m.sg : Int), .int .u64 (m.so : Int), .int .u64 (m.eg : Int), .int .u64 (m.eo : Int), .bool m.some, .int .u64 (m.code : Int), .slice s.rs.a s.rs.n s.rs.c, .int .u64 (m.n : Int), .int .u64 (m.ver : Int), .slice s.vs.a s.vs.n s.vs.c] from hA)
  have HZ := Lib.hid (show CR W1 (k + 1) 31 [.int .u64 0, .int .u64 0, .int .u64 0, .slice none 0 0, .int .u8 0, .int .u8 0, .int .u64 0, .int .u64 0, .int .u64 0, .int .u64 0, .bool false, .int .u64 0, .slice none 0 0, .int .u64 0, .int .u64 0, .slice none 0 0] from hZ)
  have HB := Lib.hid hb
  have Hk := Lib.hid hk
  clear hA hZ hb
  go_enter Tryd.func53, Tryd.ntmps53
  go_upto_region 1 with (fail)
  clear hW1 hk
  have u0 : W1.cell? ⟨k, 0, none⟩ = some (.int .u64 (m.kind : Int)) := HA.out.at_ 0
  have f0 := HA.out.fr 0
  have u13 : W1.cell? ⟨k, 13, none⟩ = some (.int .u64 (m.n : Int)) := HA.out.at_ 13
  have f13 := HA.out.fr 13
  have u15 : W1.cell? ⟨k, 15, none⟩ = some (.slice s.vs.a s.vs.n s.vs.c) := HA.out.at_ 15
  have f15 := HA.out.fr 15
  go_upto_region 28 with (fail)
  clear u0 f0 u13 f13 u15 f15
  have hF := (((HA.out.set 0 (.int .u64 0)).set 13 (.int .u64 0)).set 15 (.slice none 0 0))
  obtain ⟨W2, hW2⟩ : ∃ x, (((W1.setCell ⟨k, 0, none⟩ (.int .u64 0)).setCell ⟨k, 13, none⟩ (.int .u64 0)).setCell ⟨k, 15, none⟩ (.slice none 0 0)) = x := ⟨_, rfl⟩
  have hg : W1.grownBy W2 (some k) := by rw [← hW2]; exact (grown_trans (grown_trans (grownBy_setCell W1 ⟨k, 0, none⟩ (.int .u64 0)) (grownBy_setCell _ ⟨k, 13, none⟩ (.int .u64 0))) (grownBy_setCell _ ⟨k, 15, none⟩ (.slice none 0 0)))
  rw [hW2] at hF ⊢
  have Hrg := Lib.hid (show W2.rangeAt k 0 [.int .u64 0, .int .u64 (m.id : Int), .int .u64 (m.alias : Int), .slice s.nm.a s.nm.n s.nm.c, .int .u8 (m.prio : Int), .int .u8 (m.ord : Int), .int .u64 (m.sg : Int), .int .u64 (m.so : Int), .int .u64 (m.eg : Int), .int .u64 (m.eo : Int), .bool m.some, .int .u64 (m.code : Int), .slice s.rs.a s.rs.n s.rs.c, .int .u64 0, .int .u64 (m.ver : Int), .slice none 0 0] from hF.rng)
  have hZ2 : CR W2 (k + 1) 31 [.int .u64 0, .int .u64 0, .int .u64 0, .slice none 0 0, .int .u8 0, .int .u8 0, .int .u64 0, .int .u64 0, .int .u64 0, .int .u64 0, .bool false, .int .u64 0, .slice none 0 0, .int .u64 0, .int .u64 0, .slice none 0 0] := HZ.out.keep (hg.block _ HZ.out.lt (fun he => by injection he with he; omega))
  have HZ2 := Lib.hid hZ2
  have HB2 := Lib.hid (HB.out.grown hg HB.out.size (fun j hj => by cases hj; rw [Hk.out]; exact Nat.le_refl _))
  clear hW2 hg hF hZ2
  go_wp2_with (first
    | (refine wpList_load_mid rfl _ _ rfl _ _ rfl _ _ Hrg.out Tryd.underlying31 rfl iMsg ?_)
    | (refine L_storeRow (old := [.int .u64 0, .int .u64 0, .int .u64 0, .slice none 0 0, .int .u8 0, .int .u8 0, .int .u64 0, .int .u64 0, .int .u64 0, .int .u64 0, .bool false, .int .u64 0, .slice none 0 0, .int .u64 0, .int .u64 0, .slice none 0 0]) (new := [.int .u64 0, .int .u64 (m.id : Int), .int .u64 (m.alias : Int), .slice s.nm.a s.nm.n s.nm.c, .int .u8 (m.prio : Int), .int .u8 (m.ord : Int), .int .u64 (m.sg : Int), .int .u64 (m.so : Int), .int .u64 (m.eg : Int), .int .u64 (m.eo : Int), .bool m.some, .int .u64 (m.code : Int), .slice s.rs.a s.rs.n s.rs.c, .int .u64 0, .int .u64 (m.ver : Int), .slice none 0 0]) rfl 31 _ _ rfl rfl rfl HZ2.out iMsg rfl rfl (by simp [Value.oneCell']) ?_; intro W3 hz hg3))
  exact bodyPost_ret_by (results_cell_row rfl _ _ _ _ _ _ _ rfl hz Tryd.underlying31 rfl iMsg) rfl ⟨rfl, HB2.out.grown hg3 HB2.out.size (fun j hj => by cases hj; have := Hk.out; omega)⟩
set_option maxHeartbeats 4000000 in
theorem bare_6144 (w : World) (m : MG) (s : ML) :
    Calls Tryd.prog 53 #[.agg (mgc m s).toArray, .int .i64 6144] w fun e w' => e = .returned (.agg ([u64 0, u64 m.id, u64 m.alias, s.nm.v, .int .u8 (m.prio : Int), .int .u8 (m.ord : Int), u64 m.sg, u64 m.so, u64 m.eg, u64 m.eo, .bool m.some, u64 m.code, s.rs.v, u64 0, u64 0, s.vs.v] : List Value).toArray) ∧ Below w.heap.size w w' := by
  obtain ⟨k, hk⟩ : ∃ k, w.heap.size = k := ⟨_, rfl⟩
  have hA := heap_alloc2a w (.cells (mgc m s).toArray 31) (.cells #[.int .u64 0, .int .u64 0, .int .u64 0, .slice none 0 0, .int .u8 0, .int .u8 0, .int .u64 0, .int .u64 0, .int .u64 0, .int .u64 0, .bool false, .int .u64 0, .slice none 0 0, .int .u64 0, .int .u64 0, .slice none 0 0] 31)
  have hZ := heap_alloc2b w (.cells (mgc m s).toArray 31) (.cells #[.int .u64 0, .int .u64 0, .int .u64 0, .slice none 0 0, .int .u8 0, .int .u8 0, .int .u64 0, .int .u64 0, .int .u64 0, .int .u64 0, .bool false, .int .u64 0, .slice none 0 0, .int .u64 0, .int .u64 0, .slice none 0 0] 31)
  have hb : Below w.heap.size w ((w.alloc (.cells (mgc m s).toArray 31)).alloc (.cells #[.int .u64 0, .int .u64 0, .int .u64 0, .slice none 0 0, .int .u8 0, .int .u8 0, .int .u64 0, .int .u64 0, .int .u64 0, .int .u64 0, .bool false, .int .u64 0, .slice none 0 0, .int .u64 0, .int .u64 0, .slice none 0 0] 31)) := (below_alloc w _).alloc (by simp) _
  unfold mgc u64 SA.v at *
  obtain ⟨W1, hW1⟩ : ∃ x, (w.alloc (.cells ([.int .u64 (m.kind : Int), .int .u64 (m.id : Int), .int .u64 (m.alias : Int), .slice s.nm.a s.nm.n s.nm.c, .int .u8 (m.prio : Int), .int .u8 (m.ord : Int), .int .u64 (m.sg : Int), .int .u64 (m.so : Int), .int .u64 (m.eg : Int), .int .u64 (m.eo : Int), .bool m.some, .int .u64 (m.code : Int), .slice s.rs.a s.rs.n s.rs.c, .int .u64 (m.n : Int), .int .u64 (m.ver : Int), .slice s.vs.a s.vs.n s.vs.c] : List Value).toArray 31)).alloc (.cells #[.int .u64 0, .int .u64 0, .int .u64 0, .slice none 0 0, .int .u8 0, .int .u8 0, .int .u64 0, .int .u64 0, .int .u64 0, .int .u64 0, .bool false, .int .u64 0, .slice none 0 0, .int .u64 0, .int .u64 0, .slice none 0 0] 31) = x := ⟨_, rfl⟩
  rw [hW1, hk] at hA hZ
  rw [hW1] at hb
  have HA := Lib.hid (show CR W1 k 31 [.int .u64 (m.kind : Int), .int .u64 (m.id : Int), .int .u64 (m.alias : Int), .slice s.nm.a s.nm.n s.nm.c, .int .u8 (m.prio : Int), .int .u8 (m.ord : Int), .int .u64 (m.sg : Int), .int .u64 (m.so : Int), .int .u64 (m.eg : Int), .int .u64 (m.eo : Int), .bool m.some, .int .u64 (m.code : Int), .slice s.rs.a s.rs.n s.rs.c, .int .u64 (m.n : Int), .int .u64 (m.ver : Int), .slice s.vs.a s.vs.n s.vs.c] from hA)
  have HZ := Lib.hid (show CR W1 (k + 1) 31 [.int .u64 0, .int .u64 0, .int .u64 0, .slice none 0 0, .int .u8 0, .int .u8 0, .int .u64 0, .int .u64 0, .int .u64 0, .int .u64 0, .bool false, .int .u64 0, .slice none 0 0, .int .u64 0, .int .u64 0, .slice none 0 0] from hZ)
  have HB := Lib.hid hb
  have Hk := Lib.hid hk
  clear hA hZ hb
  go_enter Tryd.func53, Tryd.ntmps53
  go_upto_region 1 with (fail)
  clear hW1 hk
  have u0 : W1.cell? ⟨k, 0, none⟩ = some (.int .u64 (m.kind : Int)) := HA.out.at_ 0
  have f0 := HA.out.fr 0
  have u13 : W1.cell? ⟨k, 13, none⟩ = some (.int .u64 (m.n : Int)) := HA.out.at_ 13
  have f13 := HA.out.fr 13
  have u14 : W1.cell? ⟨k, 14, none⟩ = some (.int .u64 (m.ver : Int)) := HA.out.at_ 14
  have f14 := HA.out.fr 14
  go_upto_region 28 with (fail)
  clear u0 f0 u13 f13 u14 f14
  have hF := (((HA.out.set 0 (.int .u64 0)).set 13 (.int .u64 0)).set 14 (.int .u64 0))
  obtain ⟨W2, hW2⟩ : ∃ x, (((W1.setCell ⟨k, 0, none⟩ (.int .u64 0)).setCell ⟨k, 13, none⟩ (.int .u64 0)).setCell ⟨k, 14, none⟩ (.int .u64 0)) = x := ⟨_, rfl⟩
  have hg : W1.grownBy W2 (some k) := by rw [← hW2]; exact (grown_trans (grown_trans (grownBy_setCell W1 ⟨k, 0, none⟩ (.int .u64 0)) (grownBy_setCell _ ⟨k, 13, none⟩ (.int .u64 0))) (grownBy_setCell _ ⟨k, 14, none⟩ (.int .u64 0)))
  rw [hW2] at hF ⊢
  have Hrg := Lib.hid (show W2.rangeAt k 0 [.int .u64 0, .int .u64 (m.id : Int), .int .u64 (m.alias : Int), .slice s.nm.a s.nm.n s.nm.c, .int .u8 (m.prio : Int), .int .u8 (m.ord : Int), .int .u64 (m.sg : Int), .int .u64 (m.so : Int), .int .u64 (m.eg : Int), .int .u64 (m.eo : Int), .bool m.some, .int .u64 (m.code : Int), .slice s.rs.a s.rs.n s.rs.c, .int .u64 0, .int .u64 0, .slice s.vs.a s.vs.n s.vs.c] from hF.rng)
  have hZ2 : CR W2 (k + 1) 31 [.int .u64 0, .int .u64 0, .int .u64 0, .slice none 0 0, .int .u8 0, .int .u8 0, .int .u64 0, .int .u64 0, .int .u64 0, .int .u64 0, .bool false, .int .u64 0, .slice none 0 0, .int .u64 0, .int .u64 0, .slice none 0 0] := HZ.out.keep (hg.block _ HZ.out.lt (fun he => by injection he with he; omega))
  have HZ2 := Lib.hid hZ2
  have HB2 := Lib.hid (HB.out.grown hg HB.out.size (fun j hj => by cases hj; rw [Hk.out]; exact Nat.le_refl _))
  clear hW2 hg hF hZ2
  go_wp2_with (first
    | (refine wpList_load_mid rfl _ _ rfl _ _ rfl _ _ Hrg.out Tryd.underlying31 rfl iMsg ?_)
    | (refine L_storeRow (old := [.int .u64 0, .int .u64 0, .int .u64 0, .slice none 0 0, .int .u8 0, .int .u8 0, .int .u64 0, .int .u64 0, .int .u64 0, .int .u64 0, .bool false, .int .u64 0, .slice none 0 0, .int .u64 0, .int .u64 0, .slice none 0 0]) (new := [.int .u64 0, .int .u64 (m.id : Int), .int .u64 (m.alias : Int), .slice s.nm.a s.nm.n s.nm.c, .int .u8 (m.prio : Int), .int .u8 (m.ord : Int), .int .u64 (m.sg : Int), .int .u64 (m.so : Int), .int .u64 (m.eg : Int), .int .u64 (m.eo : Int), .bool m.some, .int .u64 (m.code : Int), .slice s.rs.a s.rs.n s.rs.c, .int .u64 0, .int .u64 0, .slice s.vs.a s.vs.n s.vs.c]) rfl 31 _ _ rfl rfl rfl HZ2.out iMsg rfl rfl (by simp [Value.oneCell']) ?_; intro W3 hz hg3))
  exact bodyPost_ret_by (results_cell_row rfl _ _ _ _ _ _ _ rfl hz Tryd.underlying31 rfl iMsg) rfl ⟨rfl, HB2.out.grown hg3 HB2.out.size (fun j hj => by cases hj; have := Hk.out; omega)⟩
end Go.Proofs.YtokgpnkooigamaaDoor
