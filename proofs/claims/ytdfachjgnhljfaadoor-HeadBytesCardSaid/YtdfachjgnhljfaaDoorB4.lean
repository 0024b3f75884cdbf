/- The program's right, Size, Wide of two bytes. -/
import Derived.Test.YtdfachjgnhljfaaDoorB1
set_option maxRecDepth 100000
set_option linter.unusedVariables false
namespace Go.Proofs.YtdfachjgnhljfaaDoor
open Go.RowKit
set_option maxHeartbeats 1000000 in
theorem pright_long (w : World) (lv : Int) (ph : Bool) {a b : Option Addr} {n c m k : Nat} :
    Calls Tryd.prog 51 #[.agg #[.bool true, .int .i64 lv, .bool ph, .slice a n c, .slice b m k]] w fun e w' => e = .returned (.bool (rightS true lv ph n m)) ∧ Below w.heap.size w w' := by
  have hb := below_alloc w (.cells #[.bool true, .int .i64 lv, .bool ph, .slice a n c, .slice b m k] 40)
  by_cases h0 : lv = 0 ∨ lv = 1
  · by_cases h3 : n ≤ 20
    · by_cases h4 : m ≤ 20
      · have h5 : n < 21 := by omega
        have h6 : m < 21 := by omega
        rcases h0 with rfl | rfl
        · go_enter Tryd.func51, Tryd.ntmps51
          go_wp2
          go_ret
          exact ⟨ret_bool (by cases ph <;> simp [rightS, h5, h6]), hb⟩
        · go_enter Tryd.func51, Tryd.ntmps51
          go_wp2
          go_ret
          exact ⟨ret_bool (by cases ph <;> simp [rightS, h5, h6]), hb⟩
      · have h6 : ¬ m < 21 := by omega
        rcases h0 with rfl | rfl
        · go_enter Tryd.func51, Tryd.ntmps51
          go_wp2
          go_ret
          exact ⟨ret_bool (by simp [rightS, h6]), hb⟩
        · go_enter Tryd.func51, Tryd.ntmps51
          go_wp2
          go_ret
          exact ⟨ret_bool (by simp [rightS, h6]), hb⟩
    · have h5 : ¬ n < 21 := by omega
      rcases h0 with rfl | rfl
      · go_enter Tryd.func51, Tryd.ntmps51
        go_wp2
        go_ret
        exact ⟨ret_bool (by simp [rightS, h5]), hb⟩
      · go_enter Tryd.func51, Tryd.ntmps51
        go_wp2
        go_ret
        exact ⟨ret_bool (by simp [rightS, h5]), hb⟩
  · have h1 : (lv == 0) = false := by simp; omega
    have h2 : (lv == 1) = false := by simp; omega
    go_enter Tryd.func51, Tryd.ntmps51
    go_wp2
    go_ret
    exact ⟨ret_bool (by unfold rightS; rw [if_pos rfl]; exact (decide_eq_false (fun h => absurd h (by omega))).symm), hb⟩
theorem pright_short (w : World) (lv : Int) (ph : Bool) {a b : Option Addr} {n c m k : Nat} :
    Calls Tryd.prog 51 #[.agg #[.bool false, .int .i64 lv, .bool ph, .slice a n c, .slice b m k]] w fun e w' => e = .returned (.bool (rightS false lv ph n m)) ∧ Below w.heap.size w w' := by
  have hb := below_alloc w (.cells #[.bool false, .int .i64 lv, .bool ph, .slice a n c, .slice b m k] 40)
  by_cases h1 : lv = 2
  · subst h1
    by_cases h3 : n = 8
    · subst h3
      by_cases h4 : m = 0
      · subst h4
        go_enter Tryd.func51, Tryd.ntmps51
        go_wp2
        go_ret
        exact ⟨ret_bool (by simp [rightS]), hb⟩
      · have h4' : ((m : Int) == 0) = false := by simpa using h4
        go_enter Tryd.func51, Tryd.ntmps51
        go_wp2
        go_ret
        exact ⟨ret_bool (by simp [rightS, h4]), hb⟩
    · have h3' : ((n : Int) == 8) = false := by simp; omega
      go_enter Tryd.func51, Tryd.ntmps51
      go_wp2
      go_ret
      exact ⟨ret_bool (by simp [rightS, h3]), hb⟩
  · have h1' : (lv == 2) = false := by simpa using h1
    go_enter Tryd.func51, Tryd.ntmps51
    go_wp2
    go_ret
    exact ⟨ret_bool (by simp [rightS, h1]), hb⟩
theorem pright_any (w : World) (l : Bool) (lv : Int) (ph : Bool) {a b : Option Addr} {n c m k : Nat} :
    Calls Tryd.prog 51 #[.agg #[.bool l, .int .i64 lv, .bool ph, .slice a n c, .slice b m k]] w fun e w' => e = .returned (.bool (rightS l lv ph n m)) ∧ Below w.heap.size w w' := by
  cases l
  · exact pright_short w lv ph
  · exact pright_long w lv ph
theorem psize_any (w : World) (n : Nat) (hn : n < 16384) (h0 : 0 < n) :
    Calls Tryd.prog 64 #[.int .u64 (n : Int)] w fun e w' => (∃ s : Int, e = .returned (.int .i64 s) ∧ 1 ≤ s ∧ s ≤ 2) ∧ w = w' := by
  by_cases h1 : n < 64
  · have q : ((n : Int) / 64 == 0) = true := by simp; omega
    go_enter Tryd.func64, Tryd.ntmps64
    go_wp2
    refine wp_loop_rounds 2 ?_
    rw [rounds_succ]
    go_wp2
    go_ret
    exact ⟨⟨1, rfl, by omega, by omega⟩, rfl⟩
  · have q : ((n : Int) / 64 == 0) = false := by simp; omega
    have q2 : ((n : Int) / 16384 == 0) = true := by simp; omega
    go_enter Tryd.func64, Tryd.ntmps64
    go_wp2
    refine wp_loop_rounds 3 ?_
    rw [rounds_succ]
    go_wp2
    rw [rounds_succ]
    go_wp2
    go_ret
    exact ⟨⟨2, rfl, by omega, by omega⟩, rfl⟩
end Go.Proofs.YtdfachjgnhljfaaDoor
