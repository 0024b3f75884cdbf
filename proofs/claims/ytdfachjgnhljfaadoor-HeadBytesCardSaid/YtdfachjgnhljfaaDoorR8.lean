/- head.short: a number's lowest bytes. -/
import Derived.Test.YtdfachjgnhljfaaDoorR7
set_option maxRecDepth 100000
namespace Go.Proofs.YtdfachjgnhljfaaDoor
open Go.RowKit
theorem B_ofNat (n : Nat) : B (UInt8.ofNat n) = .int .u8 ((n : Int) % 256) := by
  unfold B; rw [UInt8.toNat_ofNat']; rfl
theorem short_1 (w : World) (pn : Nat) :
    Calls Tryd.prog 52 #[.int .u64 (pn : Int), .int .i64 1] w (Made w 1 ((beB 1 pn).map B)) := by
  have hv : (beB 1 pn).map B = [.int .u8 ((pn : Int) % 256)] := by
    simp only [beB, List.nil_append, List.map_cons, List.map_nil, B_ofNat]
  rw [hv]
  clear hv
  go_enter Tryd.func52, Tryd.ntmps52
  go_wp2
  refine wp_loop_rounds 2 ?_
  rw [rounds_succ]
  go_wp2_with (at_builtin; refine L_append tB (OW_nil _ w.heap.size _ _) (RS_one _ _ _ rfl) _ _ rfl rfl rfl rfl (by omega) (by unfold maxLen; omega) (by simp) ?_; intro a1 c1 w1 o1 g1)
  have b1 := below_none (below_alloc w _) g1 (by simp)
  rw [rounds_succ]
  go_wp2
  go_ret
  exact ⟨a1, c1, rfl, by simpa using o1, b1⟩
theorem short_2 (w : World) (pn : Nat) :
    Calls Tryd.prog 52 #[.int .u64 (pn : Int), .int .i64 2] w (Made w 2 ((beB 2 pn).map B)) := by
  have hv : (beB 2 pn).map B = [.int .u8 ((pn : Int) / 256 % 256), .int .u8 ((pn : Int) % 256)] := by
    simp only [beB, List.nil_append, List.cons_append, List.map_cons, List.map_nil, B_ofNat]
    simp
    try omega
  rw [hv]
  clear hv
  go_enter Tryd.func52, Tryd.ntmps52
  go_wp2
  refine wp_loop_rounds 3 ?_
  rw [rounds_succ]
  go_wp2_with (at_builtin; refine L_append tB (OW_nil _ w.heap.size _ _) (RS_one _ _ _ rfl) _ _ rfl rfl rfl rfl (by omega) (by unfold maxLen; omega) (by simp) ?_; intro a1 c1 w1 o1 g1)
  have b1 := below_none (below_alloc w _) g1 (by simp)
  rw [rounds_succ]
  go_wp2_with (at_builtin; refine L_append tB (o1.alloc _) (RS_one _ _ _ rfl) _ _ rfl rfl rfl rfl (by omega) (by unfold maxLen; omega) (by have := b1.size; simp; omega) ?_; intro a2 c2 w2 o2 g2)
  have b2 := below_own (b1.alloc b1.size _) (o1.alloc _) g2 (Nat.le_refl _) (by have := b1.size; simp; omega)
  rw [rounds_succ]
  go_wp2
  go_ret
  exact ⟨a2, c2, rfl, by simpa using o2, b2⟩
theorem short_3 (w : World) (pn : Nat) :
    Calls Tryd.prog 52 #[.int .u64 (pn : Int), .int .i64 3] w (Made w 3 ((beB 3 pn).map B)) := by
  have hv : (beB 3 pn).map B = [.int .u8 ((pn : Int) / 65536 % 256), .int .u8 ((pn : Int) / 256 % 256), .int .u8 ((pn : Int) % 256)] := by
    simp only [beB, List.nil_append, List.cons_append, List.map_cons, List.map_nil, B_ofNat]
    simp
    try omega
  rw [hv]
  clear hv
  go_enter Tryd.func52, Tryd.ntmps52
  go_wp2
  refine wp_loop_rounds 4 ?_
  rw [rounds_succ]
  go_wp2_with (at_builtin; refine L_append tB (OW_nil _ w.heap.size _ _) (RS_one _ _ _ rfl) _ _ rfl rfl rfl rfl (by omega) (by unfold maxLen; omega) (by simp) ?_; intro a1 c1 w1 o1 g1)
  have b1 := below_none (below_alloc w _) g1 (by simp)
  rw [rounds_succ]
  go_wp2_with (at_builtin; refine L_append tB (o1.alloc _) (RS_one _ _ _ rfl) _ _ rfl rfl rfl rfl (by omega) (by unfold maxLen; omega) (by have := b1.size; simp; omega) ?_; intro a2 c2 w2 o2 g2)
  have b2 := below_own (b1.alloc b1.size _) (o1.alloc _) g2 (Nat.le_refl _) (by have := b1.size; simp; omega)
  rw [rounds_succ]
  go_wp2_with (at_builtin; refine L_append tB (o2.alloc _) (RS_one _ _ _ rfl) _ _ rfl rfl rfl rfl (by omega) (by unfold maxLen; omega) (by have := b2.size; simp; omega) ?_; intro a3 c3 w3 o3 g3)
  have b3 := below_own (b2.alloc b2.size _) (o2.alloc _) g3 (Nat.le_refl _) (by have := b2.size; simp; omega)
  rw [rounds_succ]
  go_wp2
  go_ret
  exact ⟨a3, c3, rfl, by simpa using o3, b3⟩
theorem short_4 (w : World) (pn : Nat) :
    Calls Tryd.prog 52 #[.int .u64 (pn : Int), .int .i64 4] w (Made w 4 ((beB 4 pn).map B)) := by
  have hv : (beB 4 pn).map B = [.int .u8 ((pn : Int) / 16777216 % 256), .int .u8 ((pn : Int) / 65536 % 256), .int .u8 ((pn : Int) / 256 % 256), .int .u8 ((pn : Int) % 256)] := by
    simp only [beB, List.nil_append, List.cons_append, List.map_cons, List.map_nil, B_ofNat]
    simp
    try omega
  rw [hv]
  clear hv
  go_enter Tryd.func52, Tryd.ntmps52
  go_wp2
  refine wp_loop_rounds 5 ?_
  rw [rounds_succ]
  go_wp2_with (at_builtin; refine L_append tB (OW_nil _ w.heap.size _ _) (RS_one _ _ _ rfl) _ _ rfl rfl rfl rfl (by omega) (by unfold maxLen; omega) (by simp) ?_; intro a1 c1 w1 o1 g1)
  have b1 := below_none (below_alloc w _) g1 (by simp)
  rw [rounds_succ]
  go_wp2_with (at_builtin; refine L_append tB (o1.alloc _) (RS_one _ _ _ rfl) _ _ rfl rfl rfl rfl (by omega) (by unfold maxLen; omega) (by have := b1.size; simp; omega) ?_; intro a2 c2 w2 o2 g2)
  have b2 := below_own (b1.alloc b1.size _) (o1.alloc _) g2 (Nat.le_refl _) (by have := b1.size; simp; omega)
  rw [rounds_succ]
  go_wp2_with (at_builtin; refine L_append tB (o2.alloc _) (RS_one _ _ _ rfl) _ _ rfl rfl rfl rfl (by omega) (by unfold maxLen; omega) (by have := b2.size; simp; omega) ?_; intro a3 c3 w3 o3 g3)
  have b3 := below_own (b2.alloc b2.size _) (o2.alloc _) g3 (Nat.le_refl _) (by have := b2.size; simp; omega)
  rw [rounds_succ]
  go_wp2_with (at_builtin; refine L_append tB (o3.alloc _) (RS_one _ _ _ rfl) _ _ rfl rfl rfl rfl (by omega) (by unfold maxLen; omega) (by have := b3.size; simp; omega) ?_; intro a4 c4 w4 o4 g4)
  have b4 := below_own (b3.alloc b3.size _) (o3.alloc _) g4 (Nat.le_refl _) (by have := b3.size; simp; omega)
  rw [rounds_succ]
  go_wp2
  go_ret
  exact ⟨a4, c4, rfl, by simpa using o4, b4⟩
theorem short_any (w : World) (pn : Nat) (k : Int) (h1 : 1 ≤ k) (h4 : k ≤ 4) :
    Calls Tryd.prog 52 #[.int .u64 (pn : Int), .int .i64 k] w (Made w k.toNat ((beB k.toNat pn).map B)) := by
  rcases (by omega : k = 1 ∨ k = 2 ∨ k = 3 ∨ k = 4) with rfl | rfl | rfl | rfl
  · exact short_1 w pn
  · exact short_2 w pn
  · exact short_3 w pn
  · exact short_4 w pn
end Go.Proofs.YtdfachjgnhljfaaDoor
