/- texts B1 B4 B5 B2 B6 in one. -/
import Derived.Test.YtlncnjcbgfeaoaaDoorYbb
import Derived.Test.YtlncnjcbgfeaoaaDoorYbq
import Derived.Deep.LoopGhost

/- the reference's Right, Size, Wide of two bytes. -/
set_option maxRecDepth 100000
set_option linter.unusedVariables false
namespace Go.Proofs.YtlncnjcbgfeaoaaDoor
open Go.RowKit
theorem ret_bool {a b : Bool} (h : a = b) : Ending.returned (.bool a) = .returned (.bool b) := by rw [h]
set_option maxHeartbeats 1000000 in
theorem right_long (w : World) (lv : Int) (ph : Bool) {a b : Option Addr} {n c m k : Nat} :
    Calls Tryd.prog 26 #[.agg #[.bool true, .int .i64 lv, .bool ph, .slice a n c, .slice b m k]] w fun e w' => e = .returned (.bool (rightS true lv ph n m)) ∧ Below w.heap.size w w' := by
  have hb := below_alloc w (.cells #[.bool true, .int .i64 lv, .bool ph, .slice a n c, .slice b m k] 43)
  by_cases h1 : 0 ≤ lv
  · by_cases h2 : lv ≤ 1
    · by_cases h3 : n < 21
      · by_cases h4 : m < 21
        · go_enter Tryd.func26, Tryd.ntmps26
          go_wp2
          go_ret
          exact ⟨ret_bool (by cases ph <;> simp [rightS, h1, h2, h3, h4]), hb⟩
        · go_enter Tryd.func26, Tryd.ntmps26
          go_wp2
          go_ret
          exact ⟨ret_bool (by simp [rightS, h4]), hb⟩
      · go_enter Tryd.func26, Tryd.ntmps26
        go_wp2
        go_ret
        exact ⟨ret_bool (by simp [rightS, h3]), hb⟩
    · go_enter Tryd.func26, Tryd.ntmps26
      go_wp2
      go_ret
      exact ⟨ret_bool (by unfold rightS; rw [if_pos rfl]; exact (decide_eq_false (fun h => absurd h.2.1 (by omega))).symm), hb⟩
  · go_enter Tryd.func26, Tryd.ntmps26
    go_wp2
    go_ret
    exact ⟨ret_bool (by unfold rightS; rw [if_pos rfl]; exact (decide_eq_false (fun h => absurd h.1 (by omega))).symm), hb⟩
theorem right_short (w : World) (lv : Int) (ph : Bool) {a b : Option Addr} {n c m k : Nat} :
    Calls Tryd.prog 26 #[.agg #[.bool false, .int .i64 lv, .bool ph, .slice a n c, .slice b m k]] w fun e w' => e = .returned (.bool (rightS false lv ph n m)) ∧ Below w.heap.size w w' := by
  have hb := below_alloc w (.cells #[.bool false, .int .i64 lv, .bool ph, .slice a n c, .slice b m k] 43)
  by_cases h1 : lv = 2
  · subst h1
    by_cases h3 : n = 8
    · subst h3
      by_cases h4 : m = 0
      · subst h4
        go_enter Tryd.func26, Tryd.ntmps26
        go_wp2
        go_ret
        exact ⟨ret_bool (by simp [rightS]), hb⟩
      · have h4' : ((m : Int) == 0) = false := by simpa using h4
        go_enter Tryd.func26, Tryd.ntmps26
        go_wp2
        go_ret
        exact ⟨ret_bool (by simp [rightS, h4]), hb⟩
    · have h3' : ((n : Int) == 8) = false := by simp; omega
      go_enter Tryd.func26, Tryd.ntmps26
      go_wp2
      go_ret
      exact ⟨ret_bool (by simp [rightS, h3]), hb⟩
  · have h1' : (lv == 2) = false := by simpa using h1
    go_enter Tryd.func26, Tryd.ntmps26
    go_wp2
    go_ret
    exact ⟨ret_bool (by simp [rightS, h1]), hb⟩
theorem right_any (w : World) (l : Bool) (lv : Int) (ph : Bool) {a b : Option Addr} {n c m k : Nat} :
    Calls Tryd.prog 26 #[.agg #[.bool l, .int .i64 lv, .bool ph, .slice a n c, .slice b m k]] w fun e w' => e = .returned (.bool (rightS l lv ph n m)) ∧ Below w.heap.size w w' := by
  cases l
  · exact right_short w lv ph
  · exact right_long w lv ph
theorem grown_to_below {w w1 : World} {B : Nat} (g : w.grownBy w1 none) (hB : B ≤ w.heap.size) : Below B w w1 := ⟨g.os, g.tape, g.output, g.size, fun k hk => g.block k (by omega) (by simp)⟩
end Go.Proofs.YtlncnjcbgfeaoaaDoor

/- The program's right, Size, Wide of two bytes. -/
set_option maxRecDepth 100000
set_option linter.unusedVariables false
namespace Go.Proofs.YtlncnjcbgfeaoaaDoor
open Go.RowKit
set_option maxHeartbeats 1000000 in
theorem pright_long (w : World) (lv : Int) (ph : Bool) {a b : Option Addr} {n c m k : Nat} :
    Calls Tryd.prog 61 #[.agg #[.bool true, .int .i64 lv, .bool ph, .slice a n c, .slice b m k]] w fun e w' => e = .returned (.bool (rightS true lv ph n m)) ∧ Below w.heap.size w w' := by
  have hb := below_alloc w (.cells #[.bool true, .int .i64 lv, .bool ph, .slice a n c, .slice b m k] 43)
  by_cases h0 : lv = 0 ∨ lv = 1
  · by_cases h3 : n ≤ 20
    · by_cases h4 : m ≤ 20
      · have h5 : n < 21 := by omega
        have h6 : m < 21 := by omega
        rcases h0 with rfl | rfl
        · go_enter Tryd.func61, Tryd.ntmps61
          go_wp2
          go_ret
          exact ⟨ret_bool (by cases ph <;> simp [rightS, h5, h6]), hb⟩
        · go_enter Tryd.func61, Tryd.ntmps61
          go_wp2
          go_ret
          exact ⟨ret_bool (by cases ph <;> simp [rightS, h5, h6]), hb⟩
      · have h6 : ¬ m < 21 := by omega
        rcases h0 with rfl | rfl
        · go_enter Tryd.func61, Tryd.ntmps61
          go_wp2
          go_ret
          exact ⟨ret_bool (by simp [rightS, h6]), hb⟩
        · go_enter Tryd.func61, Tryd.ntmps61
          go_wp2
          go_ret
          exact ⟨ret_bool (by simp [rightS, h6]), hb⟩
    · have h5 : ¬ n < 21 := by omega
      rcases h0 with rfl | rfl
      · go_enter Tryd.func61, Tryd.ntmps61
        go_wp2
        go_ret
        exact ⟨ret_bool (by simp [rightS, h5]), hb⟩
      · go_enter Tryd.func61, Tryd.ntmps61
        go_wp2
        go_ret
        exact ⟨ret_bool (by simp [rightS, h5]), hb⟩
  · have h1 : (lv == 0) = false := by simp; omega
    have h2 : (lv == 1) = false := by simp; omega
    go_enter Tryd.func61, Tryd.ntmps61
    go_wp2
    go_ret
    exact ⟨ret_bool (by unfold rightS; rw [if_pos rfl]; exact (decide_eq_false (fun h => absurd h (by omega))).symm), hb⟩
theorem pright_short (w : World) (lv : Int) (ph : Bool) {a b : Option Addr} {n c m k : Nat} :
    Calls Tryd.prog 61 #[.agg #[.bool false, .int .i64 lv, .bool ph, .slice a n c, .slice b m k]] w fun e w' => e = .returned (.bool (rightS false lv ph n m)) ∧ Below w.heap.size w w' := by
  have hb := below_alloc w (.cells #[.bool false, .int .i64 lv, .bool ph, .slice a n c, .slice b m k] 43)
  by_cases h1 : lv = 2
  · subst h1
    by_cases h3 : n = 8
    · subst h3
      by_cases h4 : m = 0
      · subst h4
        go_enter Tryd.func61, Tryd.ntmps61
        go_wp2
        go_ret
        exact ⟨ret_bool (by simp [rightS]), hb⟩
      · have h4' : ((m : Int) == 0) = false := by simpa using h4
        go_enter Tryd.func61, Tryd.ntmps61
        go_wp2
        go_ret
        exact ⟨ret_bool (by simp [rightS, h4]), hb⟩
    · have h3' : ((n : Int) == 8) = false := by simp; omega
      go_enter Tryd.func61, Tryd.ntmps61
      go_wp2
      go_ret
      exact ⟨ret_bool (by simp [rightS, h3]), hb⟩
  · have h1' : (lv == 2) = false := by simpa using h1
    go_enter Tryd.func61, Tryd.ntmps61
    go_wp2
    go_ret
    exact ⟨ret_bool (by simp [rightS, h1]), hb⟩
theorem pright_any (w : World) (l : Bool) (lv : Int) (ph : Bool) {a b : Option Addr} {n c m k : Nat} :
    Calls Tryd.prog 61 #[.agg #[.bool l, .int .i64 lv, .bool ph, .slice a n c, .slice b m k]] w fun e w' => e = .returned (.bool (rightS l lv ph n m)) ∧ Below w.heap.size w w' := by
  cases l
  · exact pright_short w lv ph
  · exact pright_long w lv ph
theorem psize_any (w : World) (n : Nat) (hn : n < 16384) (h0 : 0 < n) :
    Calls Tryd.prog 81 #[.int .u64 (n : Int)] w fun e w' => (∃ s : Int, e = .returned (.int .i64 s) ∧ 1 ≤ s ∧ s ≤ 2) ∧ w = w' := by
  by_cases h1 : n < 64
  · have q : ((n : Int) / 64 == 0) = true := by simp; omega
    go_enter Tryd.func81, Tryd.ntmps81
    go_wp2
    refine wp_loop_rounds 2 ?_
    rw [rounds_succ]
    go_wp2
    go_ret
    exact ⟨⟨1, rfl, by omega, by omega⟩, rfl⟩
  · have q : ((n : Int) / 64 == 0) = false := by simp; omega
    have q2 : ((n : Int) / 16384 == 0) = true := by simp; omega
    go_enter Tryd.func81, Tryd.ntmps81
    go_wp2
    refine wp_loop_rounds 3 ?_
    rw [rounds_succ]
    go_wp2
    rw [rounds_succ]
    go_wp2
    go_ret
    exact ⟨⟨2, rfl, by omega, by omega⟩, rfl⟩
end Go.Proofs.YtlncnjcbgfeaoaaDoor

/- The program's Wide of two bytes. -/
set_option maxRecDepth 100000
set_option linter.unusedVariables false
namespace Go.Proofs.YtlncnjcbgfeaoaaDoor
open Go.RowKit
theorem or_64 (m : Nat) (h : m < 64) : bits .or .u8 (m : Int) 64 = (m : Int) + 64 := by
  have h1 : ∀ m : Fin 64, bits .or .u8 ((m.val : Nat) : Int) 64 = ((m.val : Nat) : Int) + 64 := by decide
  exact h1 ⟨m, h⟩
theorem pwide_any (w : World) (n : Nat) (hn : n < 16384) (h0 : 0 < n) :
    Calls Tryd.prog 64 #[.int .u64 (n : Int), .int .i64 2] w fun e w' => ∃ a c, e = .returned (.tuple #[.slice a 2 c, .int .i64 0]) ∧ OW w' w.heap.size 5 1 a 2 c ((wide2 n).map B) ∧ Below w.heap.size w w' := by
  have T := Lib.hid (psize_any w n hn h0)
  have hv : (wide2 n).map B = [.int .u8 ((n : Int) / 256 % 256 + 64), .int .u8 ((n : Int) % 256)] := by
    simp only [wide2, List.map_cons, List.map_nil, B, UInt8.toNat_ofNat']
    rw [show (((n / 256 + 64) % 2 ^ 8 : Nat) : Int) = (n : Int) / 256 % 256 + 64 by omega, show ((n % 2 ^ 8 : Nat) : Int) = (n : Int) % 256 by omega]
  have Hv := Lib.hid hv
  clear hv
  go_enter Tryd.func64, Tryd.ntmps64
  go_wp2
  refine wp_loop_rounds 5 ?_
  rw [rounds_succ]
  go_wp2
  rw [rounds_succ]
  go_wp2
  rw [rounds_succ]
  go_wp2
  rw [rounds_succ]
  go_wp2
  rw [rounds_succ]
  go_wp2_with (first | (refine L_make tB w.heap.size 2 rfl rfl _ _ rfl rfl _ _ _ _ rfl rfl rfl rfl (by omega) (by unfold maxLen; omega) (Nat.le_refl _) ?_; intro w1 o1 g1) | (go_at_call 81; refine T.out.mono ?_; rintro e w' ⟨⟨s, rfl, hs1, hs2⟩, rfl⟩; have q1 : (s == 0) = false := (by simp; omega); have q2 : ¬ 2 < s := (by omega)))
  have b1 := below_none (Below.refl w.heap.size w) g1 (Nat.le_refl _)
  have c0 := o1.cell 0 _ rfl
  have c1 := o1.cell 1 _ rfl
  have d0 := o1.frozen 0
  have d1 := o1.frozen 1
  refine wp_loop_rounds 3 ?_
  rw [rounds_succ]
  go_wp2
  have o2 := o1.setCell 1 (.int .u8 ((n : Int) % 256)) rfl
  have e0 := o2.cell 0 _ rfl
  have e1 := o2.cell 1 _ rfl
  have f0 := o2.frozen 0
  have f1 := o2.frozen 1
  rw [rounds_succ]
  go_wp2
  have o3 := o2.setCell 0 (.int .u8 ((n : Int) / 256)) rfl
  have h0 := o3.cell 0 _ rfl
  have i0 := o3.frozen 0
  rw [rounds_succ]
  go_wp2
  go_ret2
  have hor : bits .or .u8 ((n : Int) / 256) 64 = (n : Int) / 256 + 64 := by
    have := or_64 (n / 256) (by omega)
    rwa [show ((n / 256 : Nat) : Int) = (n : Int) / 256 by omega] at this
  rw [hor]
  have o4 := o3.setCell 0 (.int .u8 ((n : Int) / 256 + 64)) rfl
  refine ⟨_, _, rfl, ?_, ((b1.setCell (Nat.le_refl _) _).setCell (Nat.le_refl _) _).setCell (Nat.le_refl _) _⟩
  rw [Hv.out, show (n : Int) / 256 % 256 = (n : Int) / 256 by omega]
  exact o4
end Go.Proofs.YtlncnjcbgfeaoaaDoor

/- the reference's Bytes of a head. -/
set_option maxRecDepth 100000
set_option linter.unusedVariables false
namespace Go.Proofs.YtlncnjcbgfeaoaaDoor
open Go.RowKit
abbrev gobj (l : Bool) (lv : Int) (ph : Bool) (t f : Value) : Obj := .cells #[.bool l, .int .i64 lv, .bool ph, t, f] 43
end Go.Proofs.YtlncnjcbgfeaoaaDoor

/- Bytes of a head: what is refused, by the program and by the reference. -/
set_option maxRecDepth 100000
set_option linter.unusedVariables false
namespace Go.Proofs.YtlncnjcbgfeaoaaDoor
open Go.RowKit
section bb
variable {w : World} {l : Bool} {lv : Int} {ph : Bool} {a b : Option Addr} {n c m k : Nat} {pn : Int} {size left : Int}
theorem pb_arg (h : size < 1 ∨ 4 < size ∨ left < 0) :
    Calls Tryd.prog 45 #[.agg #[.bool l, .int .i64 lv, .bool ph, .slice a n c, .slice b m k], .int .u64 pn, .int .i64 size, .int .i64 left] w fun e w' => e = .returned (.tuple #[.slice none 0 0, .int .i64 1]) ∧ Below w.heap.size w w' := by
  by_cases c1 : size < 1
  · go_enter Tryd.func45, Tryd.ntmps45
    go_wp2_with fail
    go_ret2
    exact ⟨rfl, below_alloc w _⟩
  · by_cases c2 : 4 < size
    · go_enter Tryd.func45, Tryd.ntmps45
      go_wp2_with fail
      go_ret2
      exact ⟨rfl, below_alloc w _⟩
    · have c3 : left < 0 := by omega
      go_enter Tryd.func45, Tryd.ntmps45
      go_wp2_with fail
      go_ret2
      exact ⟨rfl, below_alloc w _⟩
theorem pb_longE (h1 : 1 ≤ size) (h4 : size ≤ 4) (h0 : 0 ≤ left) (hl : 16383 - size < left) :
    Calls Tryd.prog 45 #[.agg #[.bool true, .int .i64 lv, .bool ph, .slice a n c, .slice b m k], .int .u64 pn, .int .i64 size, .int .i64 left] w fun e w' => e = .returned (.tuple #[.slice none 0 0, .int .i64 3]) ∧ Below w.heap.size w w' := by
  have c1 : ¬ size < 1 := by omega
  have c2 : ¬ 4 < size := by omega
  have c3 : ¬ left < 0 := by omega
  have c4 : 16384 - size ≤ left := by omega
  go_enter Tryd.func45, Tryd.ntmps45
  go_wp2_with fail
  go_ret2
  exact ⟨rfl, below_alloc w _⟩
theorem pb_form (h1 : 1 ≤ size) (h4 : size ≤ 4) (h0 : 0 ≤ left) (hl : l = true → left ≤ 16383 - size) (hr : rightS l lv ph n m = false) :
    Calls Tryd.prog 45 #[.agg #[.bool l, .int .i64 lv, .bool ph, .slice a n c, .slice b m k], .int .u64 pn, .int .i64 size, .int .i64 left] w fun e w' => e = .returned (.tuple #[.slice none 0 0, .int .i64 4]) ∧ Below w.heap.size w w' := by
  have T := pright_any (w.alloc (gobj l lv ph (.slice a n c) (.slice b m k))) l lv ph (a := a) (b := b) (n := n) (c := c) (m := m) (k := k)
  rw [hr] at T
  have HT := Lib.hid T
  have c1 : ¬ size < 1 := by omega
  have c2 : ¬ 4 < size := by omega
  have c3 : ¬ left < 0 := by omega
  clear T hr
  cases l with
  | true =>
    have hl' := hl rfl
    have c4 : ¬ 16384 - size ≤ left := by omega
    clear hl
    go_enter Tryd.func45, Tryd.ntmps45
    go_wp2_with (go_at_call 61; refine HT.out.mono ?_; rintro e w1 ⟨rfl, b1⟩)
    go_ret2
    exact ⟨rfl, (below_alloc w _).trans (b1.mono (by simp))⟩
  | false =>
    clear hl
    go_enter Tryd.func45, Tryd.ntmps45
    go_wp2_with (go_at_call 61; refine HT.out.mono ?_; rintro e w1 ⟨rfl, b1⟩)
    go_ret2
    exact ⟨rfl, (below_alloc w _).trans (b1.mono (by simp))⟩
end bb
end Go.Proofs.YtlncnjcbgfeaoaaDoor
