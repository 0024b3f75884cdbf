/- the reference's Right, Size, Wide of two bytes. -/
import Derived.Test.YtdfachjgnhljfaaDoorR9
import Derived.Test.YtdfachjgnhljfaaDoorB0
import Derived.Deep.LoopGhost
set_option maxRecDepth 100000
set_option linter.unusedVariables false
namespace Go.Proofs.YtdfachjgnhljfaaDoor
open Go.RowKit
theorem ret_bool {a b : Bool} (h : a = b) : Ending.returned (.bool a) = .returned (.bool b) := by rw [h]
set_option maxHeartbeats 1000000 in
theorem right_long (w : World) (lv : Int) (ph : Bool) {a b : Option Addr} {n c m k : Nat} :
    Calls Tryd.prog 49 #[.agg #[.bool true, .int .i64 lv, .bool ph, .slice a n c, .slice b m k]] w fun e w' => e = .returned (.bool (rightS true lv ph n m)) ∧ Below w.heap.size w w' := by
  have hb := below_alloc w (.cells #[.bool true, .int .i64 lv, .bool ph, .slice a n c, .slice b m k] 40)
  by_cases h1 : 0 ≤ lv
  · by_cases h2 : lv ≤ 1
    · by_cases h3 : n < 21
      · by_cases h4 : m < 21
        · go_enter Tryd.func49, Tryd.ntmps49
          go_wp2
          go_ret
          exact ⟨ret_bool (by cases ph <;> simp [rightS, h1, h2, h3, h4]), hb⟩
        · go_enter Tryd.func49, Tryd.ntmps49
          go_wp2
          go_ret
          exact ⟨ret_bool (by simp [rightS, h4]), hb⟩
      · go_enter Tryd.func49, Tryd.ntmps49
        go_wp2
        go_ret
        exact ⟨ret_bool (by simp [rightS, h3]), hb⟩
    · go_enter Tryd.func49, Tryd.ntmps49
      go_wp2
      go_ret
      exact ⟨ret_bool (by unfold rightS; rw [if_pos rfl]; exact (decide_eq_false (fun h => absurd h.2.1 (by omega))).symm), hb⟩
  · go_enter Tryd.func49, Tryd.ntmps49
    go_wp2
    go_ret
    exact ⟨ret_bool (by unfold rightS; rw [if_pos rfl]; exact (decide_eq_false (fun h => absurd h.1 (by omega))).symm), hb⟩
theorem right_short (w : World) (lv : Int) (ph : Bool) {a b : Option Addr} {n c m k : Nat} :
    Calls Tryd.prog 49 #[.agg #[.bool false, .int .i64 lv, .bool ph, .slice a n c, .slice b m k]] w fun e w' => e = .returned (.bool (rightS false lv ph n m)) ∧ Below w.heap.size w w' := by
  have hb := below_alloc w (.cells #[.bool false, .int .i64 lv, .bool ph, .slice a n c, .slice b m k] 40)
  by_cases h1 : lv = 2
  · subst h1
    by_cases h3 : n = 8
    · subst h3
      by_cases h4 : m = 0
      · subst h4
        go_enter Tryd.func49, Tryd.ntmps49
        go_wp2
        go_ret
        exact ⟨ret_bool (by simp [rightS]), hb⟩
      · have h4' : ((m : Int) == 0) = false := by simpa using h4
        go_enter Tryd.func49, Tryd.ntmps49
        go_wp2
        go_ret
        exact ⟨ret_bool (by simp [rightS, h4]), hb⟩
    · have h3' : ((n : Int) == 8) = false := by simp; omega
      go_enter Tryd.func49, Tryd.ntmps49
      go_wp2
      go_ret
      exact ⟨ret_bool (by simp [rightS, h3]), hb⟩
  · have h1' : (lv == 2) = false := by simpa using h1
    go_enter Tryd.func49, Tryd.ntmps49
    go_wp2
    go_ret
    exact ⟨ret_bool (by simp [rightS, h1]), hb⟩
theorem right_any (w : World) (l : Bool) (lv : Int) (ph : Bool) {a b : Option Addr} {n c m k : Nat} :
    Calls Tryd.prog 49 #[.agg #[.bool l, .int .i64 lv, .bool ph, .slice a n c, .slice b m k]] w fun e w' => e = .returned (.bool (rightS l lv ph n m)) ∧ Below w.heap.size w w' := by
  cases l
  · exact right_short w lv ph
  · exact right_long w lv ph
theorem size_any (w : World) (n : Nat) (hn : n < 16384) (h0 : 0 < n) :
    Calls Tryd.prog 63 #[.int .u64 (n : Int)] w fun e w' => (∃ s : Int, e = .returned (.int .i64 s) ∧ 1 ≤ s ∧ s ≤ 2) ∧ w = w' := by
  by_cases h1 : n < 64
  · go_enter Tryd.func63, Tryd.ntmps63
    go_wp2
    go_ret
    exact ⟨⟨1, rfl, by omega, by omega⟩, rfl⟩
  · go_enter Tryd.func63, Tryd.ntmps63
    go_wp2
    go_ret
    exact ⟨⟨2, rfl, by omega, by omega⟩, rfl⟩
theorem grown_to_below {w w1 : World} {B : Nat} (g : w.grownBy w1 none) (hB : B ≤ w.heap.size) : Below B w w1 := ⟨g.os, g.tape, g.output, g.size, fun k hk => g.block k (by omega) (by simp)⟩
/-- Wide: a form of two bytes -/
theorem wide_any (w : World) (n : Nat) (hn : n < 16384) (h0 : 0 < n) :
    Calls Tryd.prog 50 #[.int .u64 (n : Int), .int .i64 2] w fun e w' => ∃ a c, e = .returned (.tuple #[.slice a 2 c, .int .i64 0]) ∧ OW w' w.heap.size 5 1 a 2 c ((wide2 n).map B) ∧ Below w.heap.size w w' := by
  have T := Lib.hid (size_any w n hn h0)
  have hv : (wide2 n).map B = [.int .u8 ((n : Int) / 256 % 256 + 64), .int .u8 ((n : Int) % 256)] := by
    simp only [wide2, List.map_cons, List.map_nil, B, UInt8.toNat_ofNat']
    rw [show (((n / 256 + 64) % 2 ^ 8 : Nat) : Int) = (n : Int) / 256 % 256 + 64 by omega, show ((n % 2 ^ 8 : Nat) : Int) = (n : Int) % 256 by omega]
  have Hv := Lib.hid hv
  clear hv
  go_enter Tryd.func50, Tryd.ntmps50
  go_wp2_with (go_at_call 63; refine T.out.mono ?_; rintro e w' ⟨⟨s, rfl, hs1, hs2⟩, rfl⟩; have q1 : (s == 0) = false := (by simp; omega); have q2 : ¬ 2 < s := (by omega))
  refine wp_loop_rounds 3 ?_
  rw [rounds_succ]
  go_wp2_with (at_builtin; refine L_append tB (OW_made _ w.heap.size _ 1 #[_] 1 (Nat.le_refl _) rfl (by unfold maxLen; omega) (by simp [Value.oneCell'])) (RS_nil _ _) _ _ rfl rfl rfl rfl (by omega) (by unfold maxLen; omega) (by simp) ?_; intro a1 c1 w1 o1 g1)
  have b1 : Below w.heap.size w w1 := (below_alloc w _).grown g1 (by simp) (by intro k hk; simp at hk; omega)
  rw [rounds_succ]
  go_wp2_with (at_builtin; refine L_append tB (OW_made _ w.heap.size _ 1 #[_] 1 b1.size rfl (by unfold maxLen; omega) (by simp [Value.oneCell'])) (o1.rs.alloc _) _ _ rfl rfl rfl rfl (by omega) (by unfold maxLen; omega) (by have := b1.size; simp; omega) ?_; intro a2 c2 w2 o2 g2)
  have b2 : Below w.heap.size w w2 := (b1.alloc b1.size _).grown g2 (by have := b1.size; simp; omega) (by intro k hk; simp at hk; have := b1.size; omega)
  have o3 : OW w2 w.heap.size 5 1 a2 2 c2 [.int .u8 ((n : Int) / 256 % 256), .int .u8 ((n : Int) % 256)] := o2
  obtain ⟨g, rfl⟩ : ∃ g, a2 = some ⟨g, 0, none⟩ := by
    rcases o3.shape with ⟨_, h, _⟩ | ⟨g, cur, h, _⟩
    · cases h
    · exact ⟨g, h⟩
  have q3 : w2.cell? ⟨g, 0, none⟩ = some (.int .u8 ((n : Int) / 256 % 256)) := o3.cell 0 _ rfl
  have q4 : w2.frozen? ⟨g, 0, none⟩ = false := o3.frozen 0
  have hg := (o3.base_le rfl).1
  have o4 := o3.setCell 0 (.int .u8 ((n : Int) / 256 % 256 + 64)) rfl
  have O4 := Lib.hid o4
  clear o1 o2 g1 g2 o3 o4 b1
  rw [rounds_succ]
  go_wp2
  go_ret2
  refine ⟨_, _, rfl, by rw [Hv.out]; exact O4.out, b2.setCell hg _⟩
end Go.Proofs.YtdfachjgnhljfaaDoor
