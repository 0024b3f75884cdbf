/- append(s, make([]T, 0)...): the slice itself. -/
import Derived.Test.YtlncnjcbgfeaoaaDoorM4
set_option linter.unusedVariables false
namespace Go.Proofs.YtlncnjcbgfeaoaaDoor
open Go.RowKit
theorem L_append_zero0 {P : Program} {w : World} {ops : Array Oper} {rest : List Oper} {o : Oper} {f : Act} {Q : Exit → Act → World → Prop} {t e : TypeId} {zero : Value}
    (ty : STy P t e zero 1 1) {a : Option Addr} {n c : Nat} (hnc : n ≤ c)
    (it : TypeId) (hit : P.underlying it = some (.int .i64)) (s x : Operand) (hg : Region.wanted o (yielded ops f.tmps) = true)
    (hop : o.op = .call { callee := .builtin .append, args := #[s, x], argTypes := #[t, it] })
    (X : Int) (es : f.eval s = .slice a n c) (ex : f.eval x = .int .i64 X) (hX : X = 0)
    (h : wpList P ops Q rest (f.put o.dst (.slice a n c)) w) : wpList P ops Q (o :: rest) f w := by
  obtain ⟨i, hi, hz0, hz1, hz2⟩ := info_parts ty.info
  subst hX
  refine wpList_on hg fun K hK => ?_
  have hw : IntKind.i64.wrap 0 = 0 := by decide
  have hrun : (Builtin.append_ #[t, it] o.type #[.slice a n c, .int .i64 0]).run P w = .ok (.slice a n c) w := by
    cases a with
    | none => simp [Builtin.append_, run_underlying ty.und, run_underlying hit, sizeOf, typeInfo, hi, hz2, hw, hnc, asInt, asIntOf]
    | some ad => simp [Builtin.append_, run_underlying ty.und, run_underlying hit, sizeOf, typeInfo, hi, hz2, hw, hnc, asInt, asIntOf, storeCells]
  unfold Oper.wp
  simp only [execOp, hop, resolve, invoke, builtin, Sem.run_bind, Sem.run_pure, Result.andThen_ok, List.map_toArray, List.map_cons, List.map_nil, es, ex, hrun]
  exact hK _ _ h
theorem JW.mono {w : World} {base base' : Nat} {e : TypeId} {a : Option Addr} {n c : Nat} {vs : List Value} (h : JW w base e a n c vs) (hb : base' ≤ base) : JW w base' e a n c vs := by
  rcases h with h | ⟨h1, h2, h3⟩
  · exact .inl (h.mono hb)
  · exact .inr ⟨h1, h2, fun ad ha => Nat.le_trans hb (h3 ad ha)⟩
/-- append(s, make([]T, N)...), s the call's own, N any number -/
theorem L_append_zerosN {P : Program} {w : World} {ops : Array Oper} {rest : List Oper} {o : Oper} {f : Act} {Q : Exit → Act → World → Prop} {t e : TypeId} {zero : Value}
    (ty : STy P t e zero 1 1) (hone : zero.oneCell' = true) (hz : zero.cells = #[zero]) {base : Nat} {a : Option Addr} {n c : Nat} {vs : List Value} (hs : OW w base e 1 a n c vs)
    (it : TypeId) (hit : P.underlying it = some (.int .i64)) (N : Nat) (s x : Operand) (hg : Region.wanted o (yielded ops f.tmps) = true)
    (hop : o.op = .call { callee := .builtin .append, args := #[s, x], argTypes := #[t, it] })
    (X : Int) (es : f.eval s = .slice a n c) (ex : f.eval x = .int .i64 X) (hX : X = N) (hbytes : n + N ≤ 140737488355328) (hbase : base ≤ w.heap.size)
    (h : ∀ a' c' w', OW w' base e 1 a' (n + N) c' (vs ++ List.replicate N zero) → w.grownBy w' (a.map (·.block)) → wpList P ops Q rest (f.put o.dst (.slice a' (n + N) c')) w') : wpList P ops Q (o :: rest) f w := by
  rcases Nat.eq_zero_or_pos N with h0 | h0
  · subst h0
    refine L_append_zero0 ty hs.rs.le it hit s x hg hop X es ex hX ?_
    exact h a c w (by simpa using hs) (World.grownBy.refl w _)
  · exact L_append_zeros ty hone hz hs it hit N h0 s x hg hop X es ex hX hbytes hbase h
end Go.Proofs.YtlncnjcbgfeaoaaDoor
