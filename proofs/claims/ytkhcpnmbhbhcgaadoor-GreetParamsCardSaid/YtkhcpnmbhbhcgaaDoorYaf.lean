/- slices.Chunk over a row of whole blocks: what its rounds are given. -/
import Derived.Test.YtkhcpnmbhbhcgaaDoorYae
import Derived.RangeFuncNested
import Derived.RangeFuncBound
import Derived.RangeFuncCalls
import Derived.RangeFuncLeaves
import Derived.Shelf.Abstract
import Derived.Shelf.RegionOpen
import Derived.OwnWalkIn
import Derived.TacticsInMore
import Derived.LoopNIn
import Derived.LoopIn
import Derived.Laws.Rows
import Derived.Laws.NewBlocks
set_option maxRecDepth 100000
set_option linter.unusedVariables false
namespace Go.Proofs.YtkhcpnmbhbhcgaaDoor
open Go.RowKit Go.Shelf
attribute [local go_sem] Oper.semAt_some
theorem hS_eq : hS = [1779033703, 3144134277, 1013904242, 2773480762, 1359893119, 2600822924, 528734635, 1541459225] := by decide +kernel
theorem begin_any (w : World) : Calls Tryd.prog 76 #[] w fun e w' => e = .returned (.agg #[.int .u32 1779033703, .int .u32 3144134277, .int .u32 1013904242, .int .u32 2773480762, .int .u32 1359893119, .int .u32 2600822924, .int .u32 528734635, .int .u32 1541459225]) ∧ Below w.heap.size w w' := by
  go_enter Tryd.func76, Tryd.ntmps76
  go_wp2
  exact bodyPost_ret_by (results_cell_row rfl _ _ _ _ _ _ _ rfl (heap_alloc_new w _) Tryd.underlying127 rfl (by kernel_rfl)) rfl ⟨rfl, below_alloc w _⟩
/-- what a round keeps: the iterator's two boxes -/
def KB (s t : Nat) (W W' : World) : Prop := W'.heap[s]? = W.heap[s]? ∧ W'.heap[t]? = W.heap[t]?
theorem KB.refl (s t : Nat) (W : World) : KB s t W W := ⟨rfl, rfl⟩
theorem KB.trans {s t : Nat} {A B C : World} (h : KB s t A B) (k : KB s t B C) : KB s t A C := ⟨k.1.trans h.1, k.2.trans h.2⟩
theorem KB.c1 {s t : Nat} {A B : World} (h : KB s t A B) : B.cell? ⟨s, 0, none⟩ = A.cell? ⟨s, 0, none⟩ := World.cell?_of_block h.1
theorem KB.c2 {s t : Nat} {A B : World} (h : KB s t A B) : B.cell? ⟨t, 0, none⟩ = A.cell? ⟨t, 0, none⟩ := World.cell?_of_block h.2
theorem chunk_l (g m N c : Nat) (h : m + 64 ≤ N) (h2 : N ≤ c) (W : World) : (Instr.slice 22 (.slice (some ⟨g, 0, none⟩) N c) (some (.int .i64 (m : Int))) none none).run Tryd.prog W = .ok (.slice (some ⟨g, m, none⟩) (N - m) (c - m)) W := by
  have hz : (Go.sizeOf (Tryd.prog.elem 22)).run Tryd.prog W = .ok 1 W := tB.sizeOf
  rw [run_slice_l W 22 _ _ _ tB.und' .i64 _ (by omega) (by omega), hz]
  have h1 : c ≠ m := by omega
  by_cases h3 : m = 0
  · subst h3; simp [Result.andThen, sliced, Addr.add, h1]
  · simp [Result.andThen, sliced, Addr.add, h1, h3]
theorem chunk_lhm (g m N c : Nat) (h : m + 64 ≤ c) (W : World) : (Instr.slice 22 (.slice (some ⟨g, 0, none⟩) N c) (some (.int .i64 (m : Int))) (some (.int .i64 ((m : Int) + 64))) (some (.int .i64 ((m : Int) + 64)))).run Tryd.prog W = .ok (.slice (some ⟨g, m, none⟩) 64 64) W := by
  have hz : (Go.sizeOf (Tryd.prog.elem 22)).run Tryd.prog W = .ok 1 W := tB.sizeOf
  rw [run_slice_lhm W 22 _ _ _ tB.und' .i64 .i64 .i64 _ _ _ (by omega) (by omega) (by omega) (by omega), hz]
  have e2 : ((m : Int) + 64).toNat = m + 64 := by omega
  by_cases h3 : m = 0
  · subst h3; simp [Result.andThen, sliced, Addr.add]
  · simp [Result.andThen, sliced, Addr.add, h3, e2]
/-- the closure of slices.Chunk at a row of k0 blocks of 64 bytes -/
theorem chunk1_in (n : Nat) (hn : 1 ≤ n) (l Bs Bn g k0 c : Nat) (hc : 64 * k0 ≤ c) (hcm : 64 * k0 ≤ 140737488355328) (J Jx : List (Fin k0) → World → Prop)
    (hJd : ∀ pre W k, J pre W → J pre (W.drewN k))
    (hY : ∀ pre (x : Fin k0) W, J pre W → pre.length < k0 → YieldAt Fence.wide (n - 1) Tryd.prog l #[.slice (some ⟨g, 64 * x.val, none⟩) 64 64] W fun e W' =>
      (e = .returned (.bool true) ∧ J (pre ++ [x]) W' ∧ KB Bs Bn W W') ∨ (e = .returned (.bool false) ∧ Jx (pre ++ [x]) W'))
    (W : World) (cs : W.cell? ⟨Bs, 0, none⟩ = some (.slice (some ⟨g, 0, none⟩) (64 * k0) c)) (cn : W.cell? ⟨Bn, 0, none⟩ = some (.int .i64 64)) (h0 : J [] W) :
    CallsIn Fence.wide n Tryd.prog 80 #[.func (.yield l) #[] #[], .pointer (some ⟨Bs, 0, none⟩), .pointer (some ⟨Bn, 0, none⟩)] W fun e W' => (∃ v, e = .returned v) ∧
      ((∃ ys : List (Fin k0), ys.map Fin.val = List.range k0 ∧ J ys W') ∨ (∃ pre, True ∧ Jx pre W')) := by
  refine callsIn_of_wp Tryd.func80 rfl trivial ?_ rfl
  simp only [Tryd.ntmps80, List.size_toArray, List.length_cons, List.length_nil, Nat.reduceAdd, Nat.reduceSub, Array.replicate_succ, Array.replicate_zero, List.push_toArray, List.append_toArray, List.nil_append, List.cons_append]
  gi_wp2
  gi_loopw [4] (fun i wr => ∃ (k : Nat) (pre : List (Fin k0)), k ≤ k0 ∧ i = .int .i64 ((64 * k : Nat) : Int) ∧ pre.map Fin.val = List.range k ∧ J pre wr ∧ KB Bs Bn W wr)
    (fun i _ => 64 * k0 - (intOf i).toNat)
  case atStart => exact ⟨0, [], Nat.zero_le _, rfl, rfl, h0, KB.refl _ _ _⟩
  case round =>
    obtain ⟨k, pre, hk, rfl, hpre, hJs, hnx⟩ := hrel
    have cs1 := hnx.c1.trans cs
    have cn1 := hnx.c2.trans cn
    have Hpre := Lib.hid hpre
    have hpl : pre.length = k := by have := congrArg List.length hpre; simpa using this
    have Hpl := Lib.hid hpl
    clear hpre hpl
    by_cases hlt : k < k0
    · obtain ⟨m, hm⟩ : ∃ m, 64 * k = m := ⟨_, rfl⟩
      obtain ⟨N, hN⟩ : ∃ N, 64 * k0 = N := ⟨_, rfl⟩
      have hmN : m + 64 ≤ N := by omega
      have hsl1 := chunk_l g m N c hmN (by omega)
      have hsl2 := chunk_lhm g m N c (by omega)
      rw [hm]
      rw [hN] at cs1
      gi_wp2
      refine wpIn_wide.2 ?_
      go_quiet (fail)
      obtain ⟨fn, tmps, assign, body, hy, hR⟩ := hY _ ⟨k, hlt⟩ _ (hJd _ _ nq hJs) (by have := Hpl.out; omega)
      simp only [hm] at hy
      have hnd : KB Bs Bn W (wr.drewN nq) := hnx
      have cs2 : (wr.drewN nq).cell? ⟨Bs, 0, none⟩ = _ := cs1
      clear cs1 cn1
      generalize wr.drewN nq = wr2 at *
      gi_wp2
      refine hR.mono ?_
      rintro e W3 (⟨rfl, hJ3, hk3⟩ | ⟨rfl, hJx3⟩)
      · have hn3 := hnd.trans hk3
        have cn3 := hn3.c2.trans cn
        gi_wp2
        go_roundw
        case rel => exact ⟨k + 1, _, by omega, by rw [← hm]; go_num, by rw [List.map_append, Hpre.out, List.range_succ]; rfl, hJ3, hn3⟩
        case measure => simp [intOf]; omega
      · gi_wp2
        refine bodyPost_ret (results_none rfl _ _ _) rfl ?_
        exact ⟨⟨_, rfl⟩, .inr ⟨_, trivial, hJx3⟩⟩
    · obtain rfl : k = k0 := by omega
      gi_wp2
      go_end0
      exact ⟨⟨_, rfl⟩, .inl ⟨_, Hpre.out, hJs⟩⟩
theorem chunk_stops (n : Nat) (hn : 1 ≤ n) (Bs Bn g k0 c : Nat) (hc : 64 * k0 ≤ c) (hcm : 64 * k0 ≤ 140737488355328) (w : World) (hs : Bs < w.heap.size) (ht : Bn < w.heap.size)
    (cs : w.cell? ⟨Bs, 0, none⟩ = some (.slice (some ⟨g, 0, none⟩) (64 * k0) c)) (cn : w.cell? ⟨Bn, 0, none⟩ = some (.int .i64 64)) :
    SeqStopsK Fence.wide n Tryd.prog 80 #[.pointer (some ⟨Bs, 0, none⟩), .pointer (some ⟨Bn, 0, none⟩)] (fun x : Fin k0 => #[.slice (some ⟨g, 64 * x.val, none⟩) 64 64]) (KB Bs Bn) (fun ys => ys.map Fin.val = List.range k0) (fun _ => True) k0 w := fun l J Jx W hW hJ hJx hY h0 =>
  chunk1_in n hn l Bs Bn g k0 c hc hcm J Jx (fun pre W k h => hJ pre W _ none h ⟨rfl, rfl, rfl, Nat.le_refl _, fun _ _ _ => rfl⟩ (fun r e => by cases e)) hY W
    ((hW.cell (p := ⟨Bs, 0, none⟩) hs).trans cs) ((hW.cell (p := ⟨Bn, 0, none⟩) ht).trans cn) h0
theorem kb_b {w : World} {s t : Nat} (hs : s < w.heap.size) (ht : t < w.heap.size) (W : World) (l : Nat) (o o' : Obj) (hl : w.heap.size ≤ l) (_ : W.heap[l]? = some o) (_ : o.isCells = false) (_ : o.isWalk = false) : KB s t W (W.putObj l o') :=
  ⟨World.putObj_heap_other (by omega), World.putObj_heap_other (by omega)⟩
theorem chunk_any (w : World) (a : Option Addr) (n c : Nat) : Calls Tryd.prog 77 #[.slice a n c, .int .i64 64] w fun e w' =>
    e = .returned (.func (.func 80) #[] #[.pointer (some ⟨w.heap.size, 0, none⟩), .pointer (some ⟨w.heap.size + 1, 0, none⟩)]) ∧ w' = (w.alloc (.cells #[.slice a n c] 22)).alloc (.cells #[.int .i64 64] 3) := by
  go_enter Tryd.func77, Tryd.ntmps77
  go_wp2
  go_ret
  exact ⟨rfl, rfl⟩
end Go.Proofs.YtkhcpnmbhbhcgaaDoor
