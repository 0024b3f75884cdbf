/- append(s, make([]T, n)...): so many zeros behind the call's own slice. -/
import Derived.Test.YteekafpkbdbadaaMem
set_option linter.unusedVariables false
namespace Go.Proofs.Yteekafpkbdbadaa
open Go.RowKit
theorem zeroCells_one (z : Value) (n : Nat) : Builtin.zeroCells #[z] n = (List.replicate n z).toArray := by
  apply Array.ext'
  have := toList_madeCells_one z n
  simpa [madeCells, Builtin.zeroCells] using this
section
variable {P : Program} (w : World)
theorem run_append_zeros_room (t it ty e : TypeId) (i : TypeInfo) (z : Value) (ht : P.underlying t = some (.slice e)) (hit : P.underlying it = some (.int .i64)) (hi : P.info? e = some i) (hz : i.zero = some z) (hz1 : z.cells = #[z]) (hs1 : i.size = 1) (hb1 : i.bytes = 1) (hone : z.oneCell' = true)
    (g sLen sCap N : Nat) (hN : 0 < N) (hN2 : N ≤ 140737488355328) (cur : Array Value) (hg : w.heap[g]? = some (.cells cur e (0, 0)))
    (hroom : sLen + N ≤ sCap) (hfit : sLen + N ≤ cur.size) :
    (Builtin.append_ #[t, it] ty #[.slice (some ⟨g, 0, none⟩) sLen sCap, .int .i64 (N : Int)]).run P w =
      .ok (.slice (some ⟨g, 0, none⟩) (sLen + N) sCap) (w.setRow g (cur.toList.take sLen ++ List.replicate N z ++ cur.toList.drop (sLen + N)).toArray) := by
  have hst := run_storeCells_at P g sLen e (List.replicate N z) 0 cur w hg (by simpa using hfit) (by intro v hv; rw [(List.mem_replicate.1 hv).2]; exact hone)
  simp only [Nat.add_zero, List.length_replicate] at hst
  have hw : IntKind.i64.wrap (N : Int) = N := IntWalk.i64_in _ (by omega)
  have hlt : ¬ (281474976710656 < (N : Int)) := by omega
  have hne : N ≠ 0 := by omega
  have hneg : ¬ ((N : Int) < 0) := by omega
  simp [Builtin.append_, run_underlying ht, run_underlying hit, sizeOf, typeInfo, zeroValue, hi, hz, hs1, hb1, hz1, hw, hlt, hne, hroom, zeroCells_one, Addr.add_lit, hst, asInt, asIntOf, hneg]
theorem run_append_zeros_grow (t it ty e : TypeId) (i : TypeInfo) (z : Value) (ht : P.underlying t = some (.slice e)) (hit : P.underlying it = some (.int .i64)) (hi : P.info? e = some i) (hz : i.zero = some z) (hz1 : z.cells = #[z]) (hs1 : i.size = 1) (hb1 : i.bytes = 1)
    (b : Option Addr) (sLen sCap N : Nat) (hN : 0 < N) (olds : List Value) (hlo : olds.length = sLen) (holds : ∀ ad, b = some ad → ∀ j v, olds[j]? = some v → w.cell? (ad.add j) = some v) (hnil : b = none → sLen = 0)
    (hg : sCap < sLen + N) (hfit : sLen + N ≤ 140737488355328) :
    (Builtin.append_ #[t, it] ty #[.slice b sLen sCap, .int .i64 (N : Int)]).run P w =
      .ok (.slice (some ⟨w.heap.size, 0, none⟩) (sLen + N) (grownCap w (sLen + N) sCap e))
        (w.drew.alloc (.cells (olds.toArray ++ (List.replicate N z).toArray ++ Builtin.zeroCells z.cells (grownCap w (sLen + N) sCap e - (sLen + N))) e)) := by
  have hw : IntKind.i64.wrap (N : Int) = N := IntWalk.i64_in _ (by omega)
  have hlt : ¬ (281474976710656 < (N : Int)) := by omega
  have hne : N ≠ 0 := by omega
  have hneg : ¬ ((N : Int) < 0) := by omega
  have hn : ¬ (sLen + N ≤ sCap) := by omega
  have h63' : ¬ (9223372036854775807 < ((sLen : Int) + (N : Int))) := by omega
  have h48 := growslice_fits (bytes := 1) hg (by omega)
  have h48' : ¬ (281474976710656 < Builtin.nextslicecap (sLen + N) sCap) := by omega
  have hfo : (Builtin.firstCells 1 sLen (.slice b sLen sCap)).run P w.drew = .ok olds.toArray w.drew := by
    cases b with
    | none =>
      have h0 := hnil rfl
      subst h0
      have : olds = [] := List.eq_nil_of_length_eq_zero hlo
      subst this
      exact run_firstCells_none w.drew 1 0 0 sCap
    | some ad => exact run_firstCells_some (P := P) w.drew 1 sLen ad sLen sCap olds (by omega) (by simpa using holds ad rfl)
  simp [Builtin.append_, run_underlying ht, run_underlying hit, sizeOf, typeInfo, zeroValue, hi, hz, hs1, hb1, hz1, hw, hlt, hne, hn, h63', h48', Question.forced, hfo, newRow, grownCap, zeroCells_one, asInt, asIntOf, hneg]
end
theorem L_append_zeros {P : Program} {w : World} {ops : Array Oper} {rest : List Oper} {o : Oper} {f : Act} {Q : Exit → Act → World → Prop} {t e : TypeId} {zero : Value}
    (ty : STy P t e zero 1 1) (hone : zero.oneCell' = true) (hz : zero.cells = #[zero]) {base : Nat} {a : Option Addr} {n c : Nat} {vs : List Value} (hs : OW w base e 1 a n c vs)
    (it : TypeId) (hit : P.underlying it = some (.int .i64)) (N : Nat) (hN : 0 < N) (s x : Operand) (hg : Region.wanted o (yielded ops f.tmps) = true)
    (hop : o.op = .call { callee := .builtin .append, args := #[s, x], argTypes := #[t, it] })
    (X : Int) (es : f.eval s = .slice a n c) (ex : f.eval x = .int .i64 X) (hX : X = N) (hbytes : n + N ≤ 140737488355328) (hbase : base ≤ w.heap.size)
    (h : ∀ a' c' w', OW w' base e 1 a' (n + N) c' (vs ++ List.replicate N zero) → w.grownBy w' (a.map (·.block)) → wpList P ops Q rest (f.put o.dst (.slice a' (n + N) c')) w') : wpList P ops Q (o :: rest) f w := by
  obtain ⟨i, hi, hz0, hz1, hz2⟩ := info_parts ty.info
  subst hX
  have hlen : vs.length = n := by have := hs.len; omega
  have hvone : ∀ v ∈ vs ++ List.replicate N zero, v.oneCell' = true := by
    intro v hv; rcases List.mem_append.1 hv with hv | hv
    · exact hs.2 v hv
    · rw [(List.mem_replicate.1 hv).2]; exact hone
  refine wpList_on hg fun K hK => ?_
  by_cases hroom : n + N ≤ c
  · rcases hs.shape with ⟨rfl, rfl, rfl, rfl⟩ | ⟨g, cur, rfl, g1, g2, g3, g4, g5, g6, g7⟩
    · omega
    · have hrun := run_append_zeros_room (P := P) w t it o.type e i zero ty.und hit hi hz0 hz hz1 hz2 hone g n c N hN (by omega) cur g3 hroom (by omega)
      unfold Oper.wp
      simp only [execOp, hop, resolve, invoke, builtin, Sem.run_bind, Sem.run_pure, Result.andThen_ok, List.map_toArray, List.map_cons, List.map_nil, es, ex, hrun]
      refine hK _ _ (h _ _ _ (OW.mk' g _ g1 (setRow_heap w g cur _ e _ g3) hroom g5 ?_ ?_ hvone) ⟨rfl, rfl, rfl, by simp, fun k _ hk => setRow_other w g k _ (fun e => hk (by simp [e]))⟩)
      · simp only [List.size_toArray, List.length_append, List.length_take, List.length_drop, Array.length_toList, List.length_replicate]; omega
      · have h7 : cur.toList.take n = vs := by rw [← g7, Nat.mul_one]
        rw [h7]
        show List.take ((n + N) * 1) (vs ++ List.replicate N zero ++ _) = _
        rw [Nat.mul_one, List.take_append_of_le_length (by simp; omega), List.take_of_length_le (by simp; omega)]
  · have hrun := run_append_zeros_grow (P := P) w t it o.type e i zero ty.und hit hi hz0 hz hz1 hz2 a n c N hN vs hlen (fun ad ha j v hv => hs.rs.cells ha j v hv)
      (fun ha => by subst ha; exact (hs.rs.nil_inv).1) (by omega) hbytes
    have hge := grownCap_ge w (n + N) c e
    have hcm := grownCap_le_maxLen w (n + N) c e (by unfold maxLen; omega)
    unfold Oper.wp
    simp only [execOp, hop, resolve, invoke, builtin, Sem.run_bind, Sem.run_pure, Result.andThen_ok, List.map_toArray, List.map_cons, List.map_nil, es, ex, hrun]
    refine hK _ _ (h _ _ _ (OW.mk' w.heap.size _ hbase (heap_alloc_new w.drew _) hge hcm ?_ ?_ hvone) ⟨rfl, rfl, rfl, by simp, fun k hk _ => Below.heap_alloc w.drew _ k hk⟩)
    · simp only [Array.size_append, List.size_toArray, size_zeroCells, hlen, List.length_replicate, hz]; simp; omega
    · simp only [Array.toList_append, List.append_assoc]
      rw [Nat.mul_one, ← List.append_assoc, List.take_append_of_le_length (by simp; omega), List.take_of_length_le (by simp; omega)]
end Go.Proofs.Yteekafpkbdbadaa
