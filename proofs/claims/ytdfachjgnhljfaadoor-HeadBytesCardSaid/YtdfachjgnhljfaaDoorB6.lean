/- Bytes of a head: what is refused, by the program and by the reference. -/
import Derived.Test.YtdfachjgnhljfaaDoorB5
import Derived.Test.YtdfachjgnhljfaaDoorB2
set_option maxRecDepth 100000
set_option linter.unusedVariables false
namespace Go.Proofs.YtdfachjgnhljfaaDoor
open Go.RowKit
section bb
variable {w : World} {l : Bool} {lv : Int} {ph : Bool} {a b : Option Addr} {n c m k : Nat} {pn : Int} {size left : Int}
theorem pb_arg (h : size < 1 ∨ 4 < size ∨ left < 0) :
    Calls Tryd.prog 34 #[.agg #[.bool l, .int .i64 lv, .bool ph, .slice a n c, .slice b m k], .int .u64 pn, .int .i64 size, .int .i64 left] w fun e w' => e = .returned (.tuple #[.slice none 0 0, .int .i64 1]) ∧ Below w.heap.size w w' := by
  by_cases c1 : size < 1
  · go_enter Tryd.func34, Tryd.ntmps34
    go_wp2_with fail
    go_ret2
    exact ⟨rfl, below_alloc w _⟩
  · by_cases c2 : 4 < size
    · go_enter Tryd.func34, Tryd.ntmps34
      go_wp2_with fail
      go_ret2
      exact ⟨rfl, below_alloc w _⟩
    · have c3 : left < 0 := by omega
      go_enter Tryd.func34, Tryd.ntmps34
      go_wp2_with fail
      go_ret2
      exact ⟨rfl, below_alloc w _⟩
theorem pb_longE (h1 : 1 ≤ size) (h4 : size ≤ 4) (h0 : 0 ≤ left) (hl : 16383 - size < left) :
    Calls Tryd.prog 34 #[.agg #[.bool true, .int .i64 lv, .bool ph, .slice a n c, .slice b m k], .int .u64 pn, .int .i64 size, .int .i64 left] w fun e w' => e = .returned (.tuple #[.slice none 0 0, .int .i64 3]) ∧ Below w.heap.size w w' := by
  have c1 : ¬ size < 1 := by omega
  have c2 : ¬ 4 < size := by omega
  have c3 : ¬ left < 0 := by omega
  have c4 : 16384 - size ≤ left := by omega
  go_enter Tryd.func34, Tryd.ntmps34
  go_wp2_with fail
  go_ret2
  exact ⟨rfl, below_alloc w _⟩
theorem rb_arg (h : size < 1 ∨ 4 < size ∨ left < 0) :
    Calls Tryd.prog 29 #[.agg #[.bool l, .int .i64 lv, .bool ph, .slice a n c, .slice b m k], .int .u64 pn, .int .i64 size, .int .i64 left] w fun e w' => e = .returned (.tuple #[.slice none 0 0, .int .i64 1]) ∧ Below w.heap.size w w' := by
  by_cases c1 : size < 1
  · go_enter Tryd.func29, Tryd.ntmps29
    go_wp2_with fail
    go_ret2
    exact ⟨rfl, below_alloc w _⟩
  · by_cases c2 : 4 < size
    · go_enter Tryd.func29, Tryd.ntmps29
      go_wp2_with fail
      go_ret2
      exact ⟨rfl, below_alloc w _⟩
    · have c3 : left < 0 := by omega
      go_enter Tryd.func29, Tryd.ntmps29
      go_wp2_with fail
      go_ret2
      exact ⟨rfl, below_alloc w _⟩
theorem rb_longE (h1 : 1 ≤ size) (h4 : size ≤ 4) (h0 : 0 ≤ left) (hl : 16383 - size < left) :
    Calls Tryd.prog 29 #[.agg #[.bool true, .int .i64 lv, .bool ph, .slice a n c, .slice b m k], .int .u64 pn, .int .i64 size, .int .i64 left] w fun e w' => e = .returned (.tuple #[.slice none 0 0, .int .i64 3]) ∧ Below w.heap.size w w' := by
  have c1 : ¬ size < 1 := by omega
  have c2 : ¬ 4 < size := by omega
  have c3 : ¬ left < 0 := by omega
  have c4 : 16384 - size ≤ left := by omega
  go_enter Tryd.func29, Tryd.ntmps29
  go_wp2_with fail
  go_ret2
  exact ⟨rfl, below_alloc w _⟩
theorem pb_form (h1 : 1 ≤ size) (h4 : size ≤ 4) (h0 : 0 ≤ left) (hl : l = true → left ≤ 16383 - size) (hr : rightS l lv ph n m = false) :
    Calls Tryd.prog 34 #[.agg #[.bool l, .int .i64 lv, .bool ph, .slice a n c, .slice b m k], .int .u64 pn, .int .i64 size, .int .i64 left] w fun e w' => e = .returned (.tuple #[.slice none 0 0, .int .i64 4]) ∧ Below w.heap.size w w' := by
  have T := pright_any (w.alloc (gobj l lv ph (.slice a n c) (.slice b m k))) l lv ph (a := a) (b := b) (n := n) (c := c) (m := m) (k := k)
  rw [hr] at T
  have HT := Lib.hid T
  have c1 : ¬ size < 1 := by omega
  have c2 : ¬ 4 < size := by omega
  have c3 : ¬ left < 0 := by omega
  clear T hr
  cases l with
  | true =>
    have hl' := hl rfl
    have c4 : ¬ 16384 - size ≤ left := by omega
    clear hl
    go_enter Tryd.func34, Tryd.ntmps34
    go_wp2_with (go_at_call 51; refine HT.out.mono ?_; rintro e w1 ⟨rfl, b1⟩)
    go_ret2
    exact ⟨rfl, (below_alloc w _).trans (b1.mono (by simp))⟩
  | false =>
    clear hl
    go_enter Tryd.func34, Tryd.ntmps34
    go_wp2_with (go_at_call 51; refine HT.out.mono ?_; rintro e w1 ⟨rfl, b1⟩)
    go_ret2
    exact ⟨rfl, (below_alloc w _).trans (b1.mono (by simp))⟩
end bb
end Go.Proofs.YtdfachjgnhljfaaDoor
