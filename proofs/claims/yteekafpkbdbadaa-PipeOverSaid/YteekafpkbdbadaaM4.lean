/- append onto a slice without spare room: a new row. -/
import Derived.Test.YteekafpkbdbadaaM2
namespace Go.Proofs.Yteekafpkbdbadaa
open Go.RowKit
section
variable {P : Program} {w : World} {ops : Array Oper} {rest : List Oper} {o : Oper} {f : Act} {Q : Exit → Act → World → Prop} {t e : TypeId} {zero : Value} {z bytes : Nat}
theorem L_append_full (ty : STy P t e zero z bytes) (base : Nat) {a : Option Addr} {n : Nat} {vs : List Value} (hs : RS w z a n n vs)
    {b : Option Addr} {m d : Nat} {us : List Value} (hx : RS w z b m d us) (hm : 0 < m) (s x : Operand) (hg : Region.wanted o (yielded ops f.tmps) = true)
    (hop : o.op = .call { callee := .builtin .append, args := #[s, x], argTypes := #[t, t] })
    (es : f.eval s = .slice a n n) (ex : f.eval x = .slice b m d) (hbytes : (n + m) * bytes ≤ 140737488355328) (h63 : n + m ≤ maxLen) (hbase : base ≤ w.heap.size)
    (h : ∀ a' c' w', OW w' base e z a' (n + m) c' (vs ++ us) → w.grownBy w' none → wpList P ops Q rest (f.put o.dst (.slice a' (n + m) c')) w') : wpList P ops Q (o :: rest) f w := by
  cases a with
  | none =>
    obtain ⟨rfl, _, rfl⟩ := hs.nil_inv
    refine L_append ty (OW_nil w base e z) hx s x hg hop es ex hbytes h63 hbase fun a' c' w' h1 h2 => h a' c' w' h1 h2
  | some ad =>
    cases b with
    | none => have := hx.nil_inv; omega
    | some bd =>
      obtain ⟨i, hi, hz0, hz1, hz2⟩ := info_parts ty.info
      subst hz1
      have h63' : ((n + m : Nat) : Int) ≤ 9223372036854775807 := by unfold maxLen at h63; omega
      have hrun := run_append_grow (P := P) w t o.type e i zero ty.und hi hz0 ad n n vs hs.len (hs.cells rfl) bd m d us hx.len (hx.cells rfl) (by omega) h63' (growslice_fits (by omega) (by rw [hz2]; exact hbytes))
      refine wpList_on hg fun K hK => ?_
      unfold Oper.wp
      simp only [execOp, hop, resolve, invoke, builtin, Sem.run_bind, Sem.run_pure, Result.andThen_ok, List.map_toArray, List.map_cons, List.map_nil, es, ex, hrun]
      have hge := grownCap_ge w (n + m) n e
      refine hK _ _ (h _ _ _ (OW.mk' w.heap.size _ hbase (heap_alloc_new w.drew _) hge (grownCap_le_maxLen w (n + m) n e h63) ?_ ?_ ?_) ⟨rfl, rfl, rfl, by simp, fun k hk _ => Below.heap_alloc w.drew _ k hk⟩)
      · simp only [Array.size_append, List.size_toArray, size_zeroCells, hs.len, hx.len, ty.zs, ← Nat.add_mul]
        congr 1; omega
      · simp only [Array.toList_append, List.append_assoc]
        rw [← List.append_assoc, show (n + m) * i.size = (vs ++ us).length by rw [List.length_append, hs.len, hx.len, Nat.add_mul]]
        exact List.take_left
      · intro v hv; rcases List.mem_append.1 hv with hv | hv
        · exact hs.one v hv
        · exact hx.one v hv
theorem L_append_full_zeros (ty : STy P t e zero 1 1) (hone : zero.oneCell' = true) (hz : zero.cells = #[zero]) (base : Nat) {a : Option Addr} {n : Nat} {vs : List Value} (hs : RS w 1 a n n vs)
    (it : TypeId) (hit : P.underlying it = some (.int .i64)) (N : Nat) (hN : 0 < N) (s x : Operand) (hg : Region.wanted o (yielded ops f.tmps) = true)
    (hop : o.op = .call { callee := .builtin .append, args := #[s, x], argTypes := #[t, it] })
    (X : Int) (es : f.eval s = .slice a n n) (ex : f.eval x = .int .i64 X) (hX : X = N) (hbytes : n + N ≤ 140737488355328) (hbase : base ≤ w.heap.size)
    (h : ∀ a' c' w', OW w' base e 1 a' (n + N) c' (vs ++ List.replicate N zero) → w.grownBy w' none → wpList P ops Q rest (f.put o.dst (.slice a' (n + N) c')) w') : wpList P ops Q (o :: rest) f w := by
  obtain ⟨i, hi, hz0, hz1, hz2⟩ := info_parts ty.info
  subst hX
  have hlen : vs.length = n := by have := hs.len; omega
  have hvone : ∀ v ∈ vs ++ List.replicate N zero, v.oneCell' = true := by
    intro v hv; rcases List.mem_append.1 hv with hv | hv
    · exact hs.one v hv
    · rw [(List.mem_replicate.1 hv).2]; exact hone
  refine wpList_on hg fun K hK => ?_
  have hrun := run_append_zeros_grow (P := P) w t it o.type e i zero ty.und hit hi hz0 hz hz1 hz2 a n n N hN vs hlen (fun ad ha j v hv => hs.cells ha j v hv)
      (fun ha => by subst ha; exact (hs.nil_inv).1) (by omega) hbytes
  have hge := grownCap_ge w (n + N) n e
  have hcm := grownCap_le_maxLen w (n + N) n e (by unfold maxLen; omega)
  unfold Oper.wp
  simp only [execOp, hop, resolve, invoke, builtin, Sem.run_bind, Sem.run_pure, Result.andThen_ok, List.map_toArray, List.map_cons, List.map_nil, es, ex, hrun]
  refine hK _ _ (h _ _ _ (OW.mk' w.heap.size _ hbase (heap_alloc_new w.drew _) hge hcm ?_ ?_ hvone) ⟨rfl, rfl, rfl, by simp, fun k hk _ => Below.heap_alloc w.drew _ k hk⟩)
  · simp only [Array.size_append, List.size_toArray, size_zeroCells, hlen, List.length_replicate, hz]; simp; omega
  · simp only [Array.toList_append, List.append_assoc]
    rw [Nat.mul_one, ← List.append_assoc, List.take_append_of_le_length (by simp; omega), List.take_of_length_le (by simp; omega)]
end
/-- what bytes.Join hands back: a row of the call's own, or one without spare room -/
def JW (w : World) (base : Nat) (e : TypeId) (a : Option Addr) (n c : Nat) (vs : List Value) : Prop :=
  OW w base e 1 a n c vs ∨ (RS w 1 a n c vs ∧ n = c ∧ ∀ ad, a = some ad → base ≤ ad.block)
theorem JW.rs {w : World} {base : Nat} {e : TypeId} {a : Option Addr} {n c : Nat} {vs : List Value} (h : JW w base e a n c vs) : RS w 1 a n c vs := by
  rcases h with h | h
  · exact h.rs
  · exact h.1
theorem JW.base_le {w : World} {base : Nat} {e : TypeId} {a : Option Addr} {n c : Nat} {vs : List Value} (h : JW w base e a n c vs) : ∀ ad, a = some ad → base ≤ ad.block := by
  rcases h with h | h
  · exact fun ad ha => (h.base_le ha).1
  · exact h.2.2
theorem JW.keepb {w w' : World} {base : Nat} {e : TypeId} {a : Option Addr} {n c : Nat} {vs : List Value} (h : JW w base e a n c vs) (hk : ∀ ad, a = some ad → ad.block < w.heap.size → w'.heap[ad.block]? = w.heap[ad.block]?) : JW w' base e a n c vs := by
  rcases h with h | ⟨h1, h2, h3⟩
  · exact .inl (h.keepb fun ad ha => hk ad ha (h.base_le ha).2)
  · exact .inr ⟨h1.keepb hk, h2, h3⟩
theorem JW.alloc {w : World} {base : Nat} {e : TypeId} {a : Option Addr} {n c : Nat} {vs : List Value} (h : JW w base e a n c vs) (o : Obj) : JW (w.alloc o) base e a n c vs :=
  h.keepb (fun _ _ hl => Below.heap_alloc w o _ hl)
section
variable {P : Program} {w : World} {ops : Array Oper} {rest : List Oper} {o : Oper} {f : Act} {Q : Exit → Act → World → Prop} {t e : TypeId} {zero : Value} {z bytes : Nat}
theorem L_append_J (ty : STy P t e zero 1 bytes) {base : Nat} {a : Option Addr} {n c : Nat} {vs : List Value} (hs : JW w base e a n c vs)
    {b : Option Addr} {m d : Nat} {us : List Value} (hx : RS w 1 b m d us) (hm : 0 < m) (s x : Operand) (hg : Region.wanted o (yielded ops f.tmps) = true)
    (hop : o.op = .call { callee := .builtin .append, args := #[s, x], argTypes := #[t, t] })
    (es : f.eval s = .slice a n c) (ex : f.eval x = .slice b m d) (hbytes : (n + m) * bytes ≤ 140737488355328) (h63 : n + m ≤ maxLen) (hbase : base ≤ w.heap.size)
    (h : ∀ a' c' w', OW w' base e 1 a' (n + m) c' (vs ++ us) → w.grownBy w' (a.map (·.block)) → wpList P ops Q rest (f.put o.dst (.slice a' (n + m) c')) w') : wpList P ops Q (o :: rest) f w := by
  rcases hs with hs | ⟨h1, rfl, h2⟩
  · exact L_append ty hs hx s x hg hop es ex hbytes h63 hbase h
  · exact L_append_full ty base h1 hx hm s x hg hop es ex hbytes h63 hbase fun a' c' w' q1 q2 => h a' c' w' q1 ⟨q2.os, q2.tape, q2.output, q2.size, fun k hk _ => q2.block k hk (by simp)⟩
theorem L_append_J_zeros (ty : STy P t e zero 1 1) (hone : zero.oneCell' = true) (hz : zero.cells = #[zero]) {base : Nat} {a : Option Addr} {n c : Nat} {vs : List Value} (hs : JW w base e a n c vs)
    (it : TypeId) (hit : P.underlying it = some (.int .i64)) (N : Nat) (hN : 0 < N) (s x : Operand) (hg : Region.wanted o (yielded ops f.tmps) = true)
    (hop : o.op = .call { callee := .builtin .append, args := #[s, x], argTypes := #[t, it] })
    (X : Int) (es : f.eval s = .slice a n c) (ex : f.eval x = .int .i64 X) (hX : X = N) (hbytes : n + N ≤ 140737488355328) (hbase : base ≤ w.heap.size)
    (h : ∀ a' c' w', OW w' base e 1 a' (n + N) c' (vs ++ List.replicate N zero) → w.grownBy w' (a.map (·.block)) → wpList P ops Q rest (f.put o.dst (.slice a' (n + N) c')) w') : wpList P ops Q (o :: rest) f w := by
  rcases hs with hs | ⟨h1, rfl, h2⟩
  · exact L_append_zeros ty hone hz hs it hit N hN s x hg hop X es ex hX hbytes hbase h
  · exact L_append_full_zeros ty hone hz base h1 it hit N hN s x hg hop X es ex hX hbytes hbase fun a' c' w' q1 q2 => h a' c' w' q1 ⟨q2.os, q2.tape, q2.output, q2.size, fun k hk _ => q2.block k hk (by simp)⟩
end
end Go.Proofs.Yteekafpkbdbadaa
