/- Maps of pointers: streams by their IDs; sorts by their keys. -/
import Derived.Test.YteekafpkbdbadaaOA
import Derived.Maps.OwnOps
import Derived.Maps.OwnSet
import Derived.Maps.Views
import Derived.DeepKeys4
set_option maxRecDepth 100000
set_option linter.unusedVariables false
namespace Go.Proofs.Yteekafpkbdbadaa.Pi
open Go.RowKit Go.Maps
def ptrR : Value → Option (DataW Unit × List MemPlace)
  | .pointer none => some (.nil, [])
  | .pointer (some ⟨b, 0, none⟩) => some (.lit (.int .i64 (b : Int)), [])
  | _ => none
/-- what stands for a pointer -/
def dat : Option Nat → DataW Unit
  | none => .nil
  | some b => .lit (.int .i64 (b : Int))
def pv : Option Nat → Value
  | none => .pointer none
  | some b => ptr b
theorem ptrR_pv (m : Option Nat) : ptrR (pv m) = some (dat m, []) := by cases m <;> rfl
theorem ptrR_inv {v : Value} {m : Option Nat} {ps : List MemPlace} (h : ptrR v = some (dat m, ps)) : v = pv m := by
  unfold ptrR at h
  split at h
  · cases m with
    | none => rfl
    | some b => simp [dat] at h
  · next b =>
    cases m with
    | none => simp [dat] at h
    | some c =>
      simp only [dat, Option.some.injEq, Prod.mk.injEq] at h
      have h1 := h.1
      injection h1 with h1
      injection h1 with _ h1
      have : b = c := by omega
      subst this; rfl
  · cases h
/-! streams -/
theorem zeroStream (w : World) : (zeroValue 73).run Try.prog w = .ok (.pointer none) w := by kernel_rfl
theorem law64 : Keyed Try.prog 25 := int_keyed Try.underlying25
theorem key64 (id : Nat) (h : id < 18446744073709551616) : keyOf Try.prog 25 (.int .u64 (id : Int)) = some (.int .u64 (id : Int)) :=
  keyOf_int_mk Try.underlying25 (WalkArith.wf_u64 (by omega))
/-- the streams' map: the block b, no more than n entries -/
structure LM (w : World) (b n : Nat) (m : Nat → Option Nat) : Prop where
  own : ∃ D : DataW Unit, w.ownsMap Try.prog 25 ptrR b n D ∧ IsMap D ∧ (∀ id : Nat, D.atKey (.int .u64 (id : Int)) .nil = dat (m id)) ∧ ∀ id : Nat, has D (.int .u64 (id : Int)) = true → m id ≠ none
section
variable {w w' : World} {b n : Nat} {m : Nat → Option Nat}
theorem LM.made (w : World) : LM (w.alloc (.map #[] 0)) w.heap.size 0 (fun _ => none) := ⟨.map [], World.ownsMap_made _ _ _ _, ⟨[], rfl⟩, fun id => by simp [DataW.atKey, dat], fun id h => by simp [has_eq] at h⟩
theorem LM.lt (h : LM w b n m) : b < w.heap.size := by obtain ⟨D, h1, _⟩ := h.own; exact h1.lt
theorem LM.kept (h : LM w b n m) {row : Option Nat} (hg : w.grownBy w' row) (hne : some b ≠ row) : LM w' b n m := by
  obtain ⟨D, h1, h2, h3⟩ := h.own
  exact ⟨D, h1.kept hg hne, h2, h3⟩
theorem LM.keep (h : LM w b n m) (hk : w'.heap[b]? = w.heap[b]?) (hs : w.heap.size ≤ w'.heap.size) (ho : w'.os = w.os) : LM w' b n m := by
  obtain ⟨D, ⟨es, clock, h1, h2⟩, h3⟩ := h.own
  exact ⟨D, ⟨es, clock, by rw [hk]; exact h1, h2⟩, h3⟩
theorem LM.bel (h : LM w b n m) (hb : Below w.heap.size w w') : LM w' b n m :=
  h.kept (row := none) (grown_bel hb none) (by simp)
theorem LM.look (h : LM w b n m) (id : Nat) (hid : id < 18446744073709551616) : (Instr.lookup 56 (.map (some b)) (.int .u64 (id : Int)) false).run Try.prog w = .ok (pv (m id)) w := by
  obtain ⟨D, h1, h2, h3⟩ := h.own
  obtain ⟨v, ps, hrun, hv⟩ := h1.lookup law64 Try.underlying56 (zeroStream w) (ptrR_pv none) (key64 id hid)
  have hv2 : ptrR v = some (dat (m id), ps) := by rw [hv]; show some (D.atKey _ .nil, ps) = _; rw [h3.1]
  rw [hrun, ptrR_inv hv2]
theorem LM.put (id s : Nat) {D : DataW Unit} (hm : IsMap D) (h3 : (∀ id : Nat, D.atKey (.int .u64 (id : Int)) .nil = dat (m id)) ∧ ∀ id : Nat, has D (.int .u64 (id : Int)) = true → m id ≠ none) (w' : World) (n' : Nat)
    (h1 : w'.ownsMap Try.prog 25 ptrR b n' (D.put (.int .u64 (id : Int)) (dat (some s)))) : LM w' b n' (fun j => if j = id then some s else m j) := by
  refine ⟨_, h1, ?_, fun j => ?_, fun j hj2 => ?_⟩
  · obtain ⟨es, rfl⟩ := hm
    exact ⟨_, rfl⟩
  · by_cases hj : j = id
    · subst hj
      rw [atKey_put_same (k := .int .u64 (j : Int)) hm True.intro, if_pos rfl]
    · rw [atKey_put_other (by intro he; injection he with _ he; exact hj (by omega)), h3.1, if_neg hj]
  · by_cases hj : j = id
    · rw [if_pos hj]; simp
    · rw [if_neg hj]
      rw [has_put_other (by intro he; injection he with _ he; exact hj (by omega))] at hj2
      exact h3.2 j hj2
theorem L_lput {ops : Array Oper} {rest : List Oper} {o : Oper} {f : Act} {Q : Exit → Act → World → Prop} (hg : o.guard = none) (x y v : Operand) (hop : o.op = Op.mapUpdate 56 x y v)
    (h : LM w b n m) (hn : n < maxLen) (id s : Nat) (hid : id < 18446744073709551616) (hm : f.eval x = .map (some b)) (hx : f.eval y = .int .u64 (id : Int)) (hv : f.eval v = .pointer (some ⟨s, 0, none⟩))
    (hK : ∀ w', LM w' b (n + 1) (fun j => if j = id then some s else m j) → w.grownBy w' (some b) → wpList Try.prog ops Q rest (f.put o.dst undef) w') : wpList Try.prog ops Q (o :: rest) f w := by
  obtain ⟨D, h1, h2, h3⟩ := h.own
  exact wpList_mapUpdate_own w hg x y v 56 hop 25 73 law64 Try.underlying56 _ b n D hm h1 hn _ _ _ hx hv (key64 id hid) _ [] (ptrR_pv (some s)) (fun w' q1 q2 => hK w' (LM.put id s h2 h3 w' _ q1) q2)
end
/-! sorts -/
theorem laidOut : laidOutB Try.prog = true := by kernel_rfl
theorem rowKey : (66 : TypeId) < Try.prog.types.size := of_decide_eq_true (by kernel_rfl)
theorem wideKey : (match Try.prog.underlying 66 with | some (.array _ _) | some (.struct _) => true | _ => false) = true := by rw [Try.underlying66]
theorem lawKey : Keyed Try.prog 66 := Keyed.of_law (deep_law_laid laidOut (m := 2) (by omega) rowKey (by kernel_rfl) wideKey)
def kyv (a b : Bool) : Value := .agg #[.bool a, .bool b]
noncomputable def kyl (a b : Bool) : Lit := (keyOf Try.prog 66 (kyv a b)).getD (.bool true)
theorem key_ky (a b : Bool) : keyOf Try.prog 66 (kyv a b) = some (kyl a b) := by cases a <;> cases b <;> kernel_rfl
theorem kyl_inj {a b c d : Bool} (h : kyl a b = kyl c d) : a = c ∧ b = d := by
  have := lawKey.inj (key_ky a b) (by rw [h]; exact key_ky c d)
  unfold kyv at this
  simpa using this
theorem zeroSort (w : World) : (zeroValue 68).run Try.prog w = .ok (.pointer none) w := by kernel_rfl
/-- the sorts' map -/
structure SM (w : World) (b n : Nat) (m : Bool → Bool → Option Nat) : Prop where
  own : ∃ D : DataW Unit, w.ownsMap Try.prog 66 ptrR b n D ∧ IsMap D ∧ ∀ x y, D.atKey (kyl x y) .nil = dat (m x y)
section
variable {w w' : World} {b n : Nat} {m : Bool → Bool → Option Nat}
theorem SM.made (w : World) : SM (w.alloc (.map #[] 0)) w.heap.size 0 (fun _ _ => none) := ⟨.map [], World.ownsMap_made _ _ _ _, ⟨[], rfl⟩, fun x y => by simp [DataW.atKey, dat]⟩
theorem SM.lt (h : SM w b n m) : b < w.heap.size := by obtain ⟨D, h1, _⟩ := h.own; exact h1.lt
theorem SM.kept (h : SM w b n m) {row : Option Nat} (hg : w.grownBy w' row) (hne : some b ≠ row) : SM w' b n m := by
  obtain ⟨D, h1, h2, h3⟩ := h.own
  exact ⟨D, h1.kept hg hne, h2, h3⟩
theorem SM.bel (h : SM w b n m) (hb : Below w.heap.size w w') : SM w' b n m := h.kept (row := none) (grown_bel hb none) (by simp)
theorem SM.look (h : SM w b n m) (x y : Bool) : (Instr.lookup 57 (.map (some b)) (.agg #[.bool x, .bool y]) false).run Try.prog w = .ok (pv (m x y)) w := by
  obtain ⟨D, h1, h2, h3⟩ := h.own
  obtain ⟨v, ps, hrun, hv⟩ := h1.lookup lawKey Try.underlying57 (zeroSort w) (ptrR_pv none) (key_ky x y)
  have hv2 : ptrR v = some (dat (m x y), ps) := by rw [hv]; show some (D.atKey _ .nil, ps) = _; rw [h3]
  have hrun2 : (Instr.lookup 57 (.map (some b)) (kyv x y) false).run Try.prog w = .ok v w := hrun
  unfold kyv at hrun2
  rw [hrun2, ptrR_inv hv2]
theorem SM.put (x y : Bool) (s : Nat) {D : DataW Unit} (hm : IsMap D) (h3 : ∀ x y, D.atKey (kyl x y) .nil = dat (m x y)) (w' : World) (n' : Nat)
    (h1 : w'.ownsMap Try.prog 66 ptrR b n' (D.put (kyl x y) (dat (some s)))) : SM w' b n' (fun u v => if u = x ∧ v = y then some s else m u v) := by
  refine ⟨_, h1, ?_, fun u v => ?_⟩
  · obtain ⟨es, rfl⟩ := hm
    exact ⟨_, rfl⟩
  · by_cases hj : u = x ∧ v = y
    · obtain ⟨rfl, rfl⟩ := hj
      rw [atKey_put_same hm (lawKey.key (key_ky u v)), if_pos ⟨rfl, rfl⟩]
    · rw [atKey_put_other (fun he => hj (kyl_inj he)), h3, if_neg hj]
theorem L_sput {ops : Array Oper} {rest : List Oper} {o : Oper} {f : Act} {Q : Exit → Act → World → Prop} (hg : o.guard = none) (x y v : Operand) (hop : o.op = Op.mapUpdate 57 x y v)
    (h : SM w b n m) (hn : n < maxLen) (a c : Bool) (s : Nat) (hm : f.eval x = .map (some b)) (hx : f.eval y = .agg #[.bool a, .bool c]) (hv : f.eval v = .pointer (some ⟨s, 0, none⟩))
    (hK : ∀ w', SM w' b (n + 1) (fun u v => if u = a ∧ v = c then some s else m u v) → w.grownBy w' (some b) → wpList Try.prog ops Q rest (f.put o.dst undef) w') : wpList Try.prog ops Q (o :: rest) f w := by
  obtain ⟨D, h1, h2, h3⟩ := h.own
  exact wpList_mapUpdate_own w hg x y v 57 hop 66 68 lawKey Try.underlying57 _ b n D hm h1 hn _ _ _ hx hv (key_ky a c) _ [] (ptrR_pv (some s)) (fun w' q1 q2 => hK w' (SM.put a c s h2 h3 w' _ q1) q2)
theorem S_sput {ops : Array Oper} {o : Oper} {f : Act} {K : Act → World → Prop} {Q : Exit → Act → World → Prop} {E : Prop} (hg : Region.wanted o (yielded ops f.tmps) = true) (x y v : Operand) (hop : o.op = Op.mapUpdate 57 x y v)
    (h : SM w b n m) (hn : n < maxLen) (a c : Bool) (s : Nat) (hm : f.eval x = .map (some b)) (hx : f.eval y = .agg #[.bool a, .bool c]) (hv : f.eval v = .pointer (some ⟨s, 0, none⟩))
    (hK : ∀ w', SM w' b (n + 1) (fun u v => if u = a ∧ v = c then some s else m u v) → w.grownBy w' (some b) → K (f.put o.dst undef) w') : if Region.wanted o (yielded ops f.tmps) = true then Oper.wp Try.prog o f w K Q else E := by
  rw [if_pos hg]
  obtain ⟨D, h1, h2, h3⟩ := h.own
  obtain ⟨w', hrun, r1, r2⟩ := h1.update lawKey Try.underlying57 hn (key_ky a c) (ptrR_pv (some s))
  have hrun2 : (Instr.mapUpdate 57 (.map (some b)) (.agg #[.bool a, .bool c]) (.pointer (some ⟨s, 0, none⟩))).run Try.prog w = .ok () w' := hrun
  unfold Oper.wp
  simp [execOp, hop, hm, hx, hv, hrun2, Result.andThen]
  exact hK w' (SM.put a c s h2 h3 w' _ r1) r2
theorem SM.cast {m' : Bool → Bool → Option Nat} (h : SM w b n m) (he : ∀ a c, m a c = m' a c) : SM w b n m' := by
  obtain ⟨D, h1, h2, h3⟩ := h.own
  exact ⟨D, h1, h2, fun x y => by rw [h3, he]⟩
end
end Go.Proofs.Yteekafpkbdbadaa.Pi
