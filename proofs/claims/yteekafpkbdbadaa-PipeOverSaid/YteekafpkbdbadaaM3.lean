/- append of a slice as one step of a region that draws its order. -/
import Derived.Test.YteekafpkbdbadaaM2
import Derived.Deep.RegionLaw
set_option linter.unusedVariables false
namespace Go.Proofs.Yteekafpkbdbadaa
open Go.RowKit
theorem W_append {P : Program} {w : World} {o : Oper} {f : Act} {K : Act → World → Prop} {Q : Exit → Act → World → Prop} {t e : TypeId} {zero : Value} {z bytes : Nat}
    (ty : STy P t e zero z bytes) {base : Nat} {a : Option Addr} {n c : Nat} {vs : List Value} (hs : OW w base e z a n c vs)
    {b : Option Addr} {m d : Nat} {us : List Value} (hx : RS w z b m d us) (s x : Operand)
    (hop : o.op = .call { callee := .builtin .append, args := #[s, x], argTypes := #[t, t] })
    (es : f.eval s = .slice a n c) (ex : f.eval x = .slice b m d) (hbytes : (n + m) * bytes ≤ 140737488355328) (h63 : n + m ≤ maxLen) (hbase : base ≤ w.heap.size)
    (h : ∀ a' c' w', OW w' base e z a' (n + m) c' (vs ++ us) → w.grownBy w' (a.map (·.block)) → K (f.put o.dst (.slice a' (n + m) c')) w') : o.wp P f w K Q := by
  obtain ⟨i, hi, hz0, hz1, hz2⟩ := info_parts ty.info
  have hrow : Value.ownBlock (.slice a n c) = a.map (·.block) := by cases a <;> rfl
  cases b with
  | none =>
    obtain ⟨rfl, rfl, rfl⟩ := hx.nil_inv
    have hrun := run_append_owned_none (P := P) (w := w) base t o.type e i z ty.und hi (.slice a n c) n vs hs.1
    unfold Oper.wp
    simp only [execOp, hop, resolve, invoke, builtin, Sem.run_bind, Sem.run_pure, Result.andThen_ok, List.map_toArray, List.map_cons, List.map_nil, es, ex, hrun]
    have := h a c w (by simpa using hs) (World.grownBy.refl w _)
    have h2 : K (f.put o.dst (.slice a n c)) w := by simpa using this
    exact h2
  | some ad =>
    refine wp_append_own w s x t hop base e i zero z bytes ty.und hi hz0 hz1 hz2 ty.zs ty.zpos (.slice a n c) n vs es hs.1 ad m d us ex hx.len (hx.cells rfl) hx.one h63 hbytes hbase fun v' w' h1 h2 _ => ?_
    have hone : ∀ v ∈ vs ++ us, v.oneCell' = true := by
      intro v hv; rcases List.mem_append.1 hv with hv | hv
      · exact hs.2 v hv
      · exact hx.one v hv
    rw [hrow] at h2
    rcases h1.2 with ⟨rfl, h3⟩ | ⟨g, cap, cur, rfl, _⟩
    · have := h none 0 w' ⟨by rw [h3] at h1 ⊢; exact h1, hone⟩ h2
      rw [h3] at this; exact this
    · exact h _ _ w' ⟨h1, hone⟩ h2
theorem S_append {P : Program} {ops : Array Oper} {w : World} {o : Oper} {f : Act} {K : Act → World → Prop} {Q : Exit → Act → World → Prop} {E : Prop} {t e : TypeId} {zero : Value} {z bytes : Nat}
    (ty : STy P t e zero z bytes) {base : Nat} {a : Option Addr} {n c : Nat} {vs : List Value} (hs : OW w base e z a n c vs)
    {b : Option Addr} {m d : Nat} {us : List Value} (hx : RS w z b m d us) (s x : Operand) (hg : o.guard = none)
    (hop : o.op = .call { callee := .builtin .append, args := #[s, x], argTypes := #[t, t] })
    (es : f.eval s = .slice a n c) (ex : f.eval x = .slice b m d) (hbytes : (n + m) * bytes ≤ 140737488355328) (h63 : n + m ≤ maxLen) (hbase : base ≤ w.heap.size)
    (h : ∀ a' c' w', OW w' base e z a' (n + m) c' (vs ++ us) → w.grownBy w' (a.map (·.block)) → K (f.put o.dst (.slice a' (n + m) c')) w') :
    if Region.wanted o (yielded ops f.tmps) = true then Oper.wp P o f w K Q else E := by
  rw [if_pos (by simp [Region.wanted, hg])]
  exact W_append ty hs hx s x hop es ex hbytes h63 hbase h
end Go.Proofs.Yteekafpkbdbadaa
