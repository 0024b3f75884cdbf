/- Rows of cells (structs), loads and stores of them. -/
import Derived.Test.YteekafpkbdbadaaF0
import Derived.Test.YteekafpkbdbadaaUS
import Derived.Test.YteekafpkbdbadaaUK
import Derived.Deep.MidRow
import Derived.Deep.DeepCutAuto
import Derived.StillTailTactics
import Derived.Deep.WholeRow
import Derived.Deep.RegionHeld3
import Derived.Lib.Hide
import Derived.OwnWalk
set_option maxRecDepth 100000
set_option linter.unusedVariables false
namespace Go.Proofs.Yteekafpkbdbadaa.Pi
open Go.RowKit
theorem ret_bool {a b : Bool} (h : a = b) : Ending.returned (.bool a) = .returned (.bool b) := by rw [h]
/-- where a slice lies -/
structure SA where
  a : Option Addr
  n : Nat
  c : Nat
def SA.v (s : SA) : Value := .slice s.a s.n s.c
def SA0 : SA := ⟨none, 0, 0⟩
def u64 (x : Nat) : Value := .int .u64 (x : Int)
def ptr (b : Nat) : Value := .pointer (some ⟨b, 0, none⟩)
/-- a row of cells -/
def CR (w : World) (g : Nat) (t : TypeId) (l : List Value) : Prop := w.heap[g]? = some (.cells l.toArray t (0, 0))
theorem btr {w w1 w2 : World} (h : Below w.heap.size w w1) (k : Below w1.heap.size w1 w2) : Below w.heap.size w w2 := h.trans (k.mono h.size)
section
variable {w w' : World} {g : Nat} {t : TypeId} {l : List Value}
theorem CR.lt (h : CR w g t l) : g < w.heap.size := (Array.getElem?_eq_some_iff.1 h).1
theorem CR.keep (h : CR w g t l) (hk : w'.heap[g]? = w.heap[g]?) : CR w' g t l := by unfold CR; rw [hk]; exact h
theorem CR.bel (h : CR w g t l) (hb : Below w.heap.size w w') : CR w' g t l := h.keep (hb.block _ h.lt)
theorem CR.at_ (h : CR w g t l) (i : Nat) : w.cell? ⟨g, i, none⟩ = l[i]? := by unfold CR at h; simp [World.cell?, h]
theorem CR.fr (h : CR w g t l) (i : Nat) : w.frozen? ⟨g, i, none⟩ = false := by unfold CR at h; simp [World.frozen?, h]
theorem CR.rng (h : CR w g t l) : w.rangeAt g 0 l := fun j v hv => by rw [Nat.zero_add, h.at_]; exact hv
theorem CR.set (h : CR w g t l) (i : Nat) (v : Value) : CR (w.setCell ⟨g, i, none⟩ v) g t (l.set i v) := by
  unfold CR at h ⊢
  simp [World.setCell, Array.getElem?_modify, h]
theorem CR.new (w : World) (t : TypeId) (l : List Value) : CR (w.alloc (.cells l.toArray t)) w.heap.size t l := heap_alloc_new w _
theorem CR.type (h : CR w g t l) {t' : TypeId} {l' : List Value} (h' : CR w g t' l') : t = t' ∧ l = l' := by
  unfold CR at h h'
  rw [h] at h'
  injection h' with h'
  injection h' with h1 h2
  exact ⟨h2, by simpa using congrArg Array.toList h1⟩
theorem CR.grown (h : CR w g t l) {row : Option Nat} (hg : w.grownBy w' row) (hne : some g ≠ row) : CR w' g t l := h.keep (hg.block g h.lt hne)
end
theorem bel_drewN (N : Nat) (w : World) (n : Nat) : Below N w (w.drewN n) := ⟨rfl, rfl, rfl, Nat.le_refl _, fun _ _ => rfl⟩
theorem bel_drew (N : Nat) (w : World) : Below N w w.drew := ⟨rfl, rfl, rfl, Nat.le_refl _, fun _ _ => rfl⟩
theorem grown_then {w0 w w' : World} {row : Option Nat} (h : Below w0.heap.size w0 w) (hg : w.grownBy w' row) : w0.grownBy w' row := ⟨hg.os.trans h.os, hg.tape.trans h.tape, hg.output.trans h.output, Nat.le_trans h.size hg.size, fun k hk hr => (hg.block k (Nat.lt_of_lt_of_le hk h.size) hr).trans (h.block k hk)⟩
theorem grown_bel {w w' : World} (h : Below w.heap.size w w') (row : Option Nat) : w.grownBy w' row := ⟨h.os, h.tape, h.output, h.size, fun k hk _ => h.block k hk⟩
theorem grown_set (w : World) (g i : Nat) (v : Value) : w.grownBy (w.setCell ⟨g, i, none⟩ v) (some g) := grownBy_setCell w ⟨g, i, none⟩ v
theorem bel_grown {w0 w w' : World} {N : Nat} {g : Nat} (hb : Below N w0 w) (hg : w.grownBy w' (some g)) (hN : N ≤ w.heap.size) (h : N ≤ g) : Below N w0 w' := hb.grown hg hN (fun j hj => by cases hj; exact h)
/-- a load of several cells -/
theorem L_loadG {w : World} {ops : Array Oper} {rest : List Oper} {o : Oper} {f : Act} {Q : Exit → Act → World → Prop} (ty : TypeId) (x : Operand) (ho : o.op = .load ty x) (hg : Region.wanted o (yielded ops f.tmps) = true)
    (b i : Nat) (hx : f.eval x = .pointer (some ⟨b, i, none⟩)) (cs : List Value) (d : TypeDesc) (hc : w.rangeAt b i cs) (hu : Try.prog.underlying ty = some d) (hd : d.isRow = true) (hi : (Try.prog.info? ty).map (·.size) = some cs.length)
    (h : wpList Try.prog ops Q rest (f.put o.dst (.agg cs.toArray)) w) : wpList Try.prog ops Q (o :: rest) f w :=
  wpList_on hg fun K hK => wp_load_mid ty x ho b i hx cs d hc hu hd hi (hK _ _ h)
theorem setRow_heap (w : World) (g : Nat) (cur new : Array Value) (t : TypeId) (fr : Nat × Nat) (h : w.heap[g]? = some (.cells cur t fr)) : (w.setRow g new).heap[g]? = some (.cells new t fr) := by
  have := (Array.getElem?_eq_some_iff.1 h).1
  simp [World.setRow, Array.getElem?_modify, h]
theorem grownBy_setRow (w : World) (g : Nat) (cs : Array Value) : w.grownBy (w.setRow g cs) (some g) := by
  refine ⟨rfl, rfl, rfl, by simp, fun k _ hk => ?_⟩
  have : g ≠ k := fun h => hk (by rw [h])
  simp [World.setRow, Array.getElem?_modify, this]
/-- a store of a whole struct -/
theorem L_storeRow {w : World} {ops : Array Oper} {rest : List Oper} {o : Oper} {f : Act} {Q : Exit → Act → World → Prop} (hgd : o.guard = none) (t : TypeId) (x y : Operand) (ho : o.op = .store t x y)
    {g n : Nat} {t' : TypeId} {old new : List Value} (hx : f.eval x = .pointer (some ⟨g, 0, none⟩)) (hy : f.eval y = .agg new.toArray) (hA : CR w g t' old) (hi : (Try.prog.info? t).map (·.size) = some n) (hl : old.length = n) (hl2 : new.length = n) (h1 : ∀ v ∈ new, v.oneCell' = true)
    (h : ∀ w', CR w' g t' new → w.grownBy w' (some g) → wpList Try.prog ops Q rest (f.put o.dst undef) w') : wpList Try.prog ops Q (o :: rest) f w := by
  refine wpList_store_row hgd t x y ho g _ hx hy t' _ hA (by rw [List.size_toArray, hl2]; exact hi) (by simp [hl, hl2]) (by rw [Array.all_eq_true_iff_forall_mem]; intro v hv; exact h1 v (by simpa using hv)) ?_
  exact h _ (setRow_heap _ _ _ _ _ _ hA) (grownBy_setRow w g _)
theorem heap_alloc2a (w : World) (o p : Obj) : ((w.alloc o).alloc p).heap[w.heap.size]? = some o := by
  rw [Below.heap_alloc (w.alloc o) p w.heap.size (by simp)]; exact heap_alloc_new w o
theorem heap_alloc2b (w : World) (o p : Obj) : ((w.alloc o).alloc p).heap[w.heap.size + 1]? = some p := by
  have h := heap_alloc_new (w.alloc o) p
  rwa [show (w.alloc o).heap.size = w.heap.size + 1 by simp] at h
theorem min2 (W : World) (ts : Array TypeId) (t : TypeId) (a b : Nat) : (Builtin.min_ ts t #[.int .u64 (a : Int), .int .u64 (b : Int)]).run Try.prog W = .ok (.int .u64 ((min a b : Nat) : Int)) W := by
  have : (Builtin.min_ ts t #[.int .u64 (a : Int), .int .u64 (b : Int)]).run Try.prog W = .ok (.int .u64 (if (b : Int) < (a : Int) then (b : Int) else (a : Int))) W := by
    simp [Builtin.min_, Builtin.min2]
  rw [this]
  congr 2
  split <;> omega
theorem max2 (W : World) (ts : Array TypeId) (t : TypeId) (a b : Nat) : (Builtin.max_ ts t #[.int .u64 (a : Int), .int .u64 (b : Int)]).run Try.prog W = .ok (.int .u64 ((max a b : Nat) : Int)) W := by
  have : (Builtin.max_ ts t #[.int .u64 (a : Int), .int .u64 (b : Int)]).run Try.prog W = .ok (.int .u64 (if (a : Int) < (b : Int) then (b : Int) else (a : Int))) W := by
    simp [Builtin.max_, Builtin.max2]
  rw [this]
  congr 2
  split <;> omega
/-- a builtin of two numbers -/
theorem L_min2 {w : World} {ops : Array Oper} {rest : List Oper} {o : Oper} {f : Act} {Q : Exit → Act → World → Prop} {ts : Array TypeId} {x y : Operand} (hop : o.op = .call { callee := .builtin .min, args := #[x, y], argTypes := ts }) (a b X : Nat) (hX : min a b = X) (e1 : f.eval x = .int .u64 (a : Int)) (e2 : f.eval y = .int .u64 (b : Int)) (hg : Region.wanted o (yielded ops f.tmps) = true)
    (h : wpList Try.prog ops Q rest (f.put o.dst (.int .u64 (X : Int))) w) : wpList Try.prog ops Q (o :: rest) f w := by
  refine wpList_on hg fun K hK => ?_
  unfold Oper.wp
  simp only [execOp, hop, resolve, invoke, builtin, Sem.run_bind, Sem.run_pure, Result.andThen_ok, List.map_toArray, List.map_cons, List.map_nil, e1, e2, min2]
  rw [hX]
  exact hK _ _ h
theorem L_max2 {w : World} {ops : Array Oper} {rest : List Oper} {o : Oper} {f : Act} {Q : Exit → Act → World → Prop} {ts : Array TypeId} {x y : Operand} (hop : o.op = .call { callee := .builtin .max, args := #[x, y], argTypes := ts }) (a b X : Nat) (hX : max a b = X) (e1 : f.eval x = .int .u64 (a : Int)) (e2 : f.eval y = .int .u64 (b : Int)) (hg : Region.wanted o (yielded ops f.tmps) = true)
    (h : wpList Try.prog ops Q rest (f.put o.dst (.int .u64 (X : Int))) w) : wpList Try.prog ops Q (o :: rest) f w := by
  refine wpList_on hg fun K hK => ?_
  unfold Oper.wp
  simp only [execOp, hop, resolve, invoke, builtin, Sem.run_bind, Sem.run_pure, Result.andThen_ok, List.map_toArray, List.map_cons, List.map_nil, e1, e2, max2]
  rw [hX]
  exact hK _ _ h
theorem gate_ix {w : World} {ops : Array Oper} {rest : List Oper} {f : Act} {Q : Exit → Act → World → Prop} {d : Option Tmp} {t ty : TypeId} {x i : Operand} {pos : String} {af : Array Edge} {g : Option (Nat × Bool)} (h : wpList Try.prog ops Q (⟨d, .indexAddr t x i, ty, pos, af, g⟩ :: rest) f w) : wpList Try.prog ops Q (⟨d, .indexAddr t x i, ty, pos, af, g⟩ :: rest) f w := h

/-- &l[i] of a slice that lies anywhere -/
theorem L_indexO {P : Program} {w : World} {ops : Array Oper} {rest : List Oper} {o : Oper} {f : Act} {Q : Exit → Act → World → Prop} {t e : TypeId} {zero : Value} {z bytes : Nat} (ty : STy P t e zero z bytes) {b of n c : Nat} (x i : Operand)
    (hop : o.op = .indexAddr t x i) (k : IntKind) (I : Int) (j : Nat) (ex : f.eval x = .slice (some ⟨b, of, none⟩) n c) (ei : f.eval i = .int k I) (hI : I = j) (h1 : j < n) {J : Nat} (hJ : of + z * j = J) (hg : Region.wanted o (yielded ops f.tmps) = true)
    (h : wpList P ops Q rest (f.put o.dst (.pointer (some ⟨b, J, none⟩))) w) : wpList P ops Q (o :: rest) f w := by
  subst hI
  subst hJ
  refine wpList_on hg fun K hK => ?_
  have hrun : (Instr.indexAt t (.slice (some ⟨b, of, none⟩) n c) (.int k (j : Int))).run P w = .ok (.pointer (some ⟨b, of + z * j, none⟩)) w := by
    rw [run_indexAt_slice w t _ n c k _ ty.und', if_pos ⟨by omega, by omega⟩, ty.sizeOf]
    simp [Result.andThen, add_plain, Nat.mul_comm]
  unfold Oper.wp
  simp only [execOp, hop, ex, ei]
  simp [hrun, Result.andThen]
  exact hK _ _ h
theorem CR.rng2 {w : World} {g : Nat} {t : TypeId} {l : List Value} (h : CR w g t l) (o : Nat) {u v : Value} (h1 : l[o]? = some u) (h2 : l[o + 1]? = some v) : w.rangeAt g o [u, v] := fun j x hx => by
  match j, hx with
  | 0, hx => rw [Nat.add_zero, h.at_, h1]; exact hx
  | 1, hx => rw [h.at_, h2]; exact hx
  | j + 2, hx => simp at hx
end Go.Proofs.Yteekafpkbdbadaa.Pi
