/- append of one element onto the call's own slice, as one step of a region: what lay in the old row lies there still. -/
import Derived.Test.YtokgpnkooigamaaDoorM3
import Derived.Test.YtokgpnkooigamaaDoorM4
import Derived.Deep.DeepAppendRoom
set_option linter.unusedVariables false
namespace Go.Proofs.YtokgpnkooigamaaDoor
open Go.RowKit
theorem S_append1 {P : Program} {ops : Array Oper} {w : World} {o : Oper} {f : Act} {K : Act → World → Prop} {Q : Exit → Act → World → Prop} {E : Prop} {t e : TypeId} {zero : Value} {bytes : Nat}
    (ty : STy P t e zero 1 bytes) {base g n c : Nat} {vs : List Value} (hs : OW w base e 1 (some ⟨g, 0, none⟩) n c vs)
    {b : Option Addr} {d : Nat} {u : Value} (hx : RS w 1 b 1 d [u]) (s x : Operand) (hg : o.guard = none)
    (hop : o.op = .call { callee := .builtin .append, args := #[s, x], argTypes := #[t, t] })
    (es : f.eval s = .slice (some ⟨g, 0, none⟩) n c) (ex : f.eval x = .slice b 1 d) (hbytes : (n + 1) * bytes ≤ 140737488355328) (h63 : n + 1 ≤ maxLen) (hbase : base ≤ w.heap.size)
    (h : ∀ a' c' w', OW w' base e 1 a' (n + 1) c' (vs ++ [u]) → w.grownBy w' (some g) → (∀ (j : Nat) v, vs[j]? = some v → w'.cell? ⟨g, j, none⟩ = some v) → K (f.put o.dst (.slice a' (n + 1) c')) w') :
    if Region.wanted o (yielded ops f.tmps) = true then Oper.wp P o f w K Q else E := by
  rw [if_pos (by simp [Region.wanted, hg])]
  obtain ⟨i, hi, hz0, hz1, hz2⟩ := info_parts ty.info
  cases b with
  | none => have := hx.nil_inv; omega
  | some bd =>
    have hvl : vs.length = n := by have := hs.len; omega
    have hone : ∀ v ∈ vs ++ [u], v.oneCell' = true := by
      intro v hv; rcases List.mem_append.1 hv with hv | hv
      · exact hs.2 v hv
      · exact hx.one v hv
    by_cases hroom : n + 1 ≤ c
    · refine wp_append_own_spare w s x t hop base e i 1 ty.und hi hz1 g n c vs es hs.1 bd 1 d [u] ex (by simp) (hx.cells rfl) hx.one hroom fun w' h1 h2 => ?_
      have ho : OW w' base e 1 (some ⟨g, 0, none⟩) (n + 1) c (vs ++ [u]) := ⟨h1, hone⟩
      refine h _ _ w' ho h2 fun j v hv => ?_
      have hj : j < vs.length := (List.getElem?_eq_some_iff.1 hv).1
      have := (ho.rs.2.2.2.2.2 ⟨g, 0, none⟩ rfl).2 j v (by rw [List.getElem?_append_left hj]; exact hv)
      simpa using this
    · have hle := hs.rs.le
      obtain rfl : c = n := by omega
      have h63' : ((c + 1 : Nat) : Int) ≤ 9223372036854775807 := by unfold maxLen at h63; omega
      have hrun := run_append_grow (P := P) w t o.type e i zero ty.und hi hz0 ⟨g, 0, none⟩ c c vs (by rw [hz1]; exact hs.len) (by intro j v hv; exact hs.rs.cells rfl j v hv) bd 1 d [u] (by rw [hz1]; rfl) (hx.cells rfl) (by omega) h63' (growslice_fits (by omega) (by rw [hz2]; exact hbytes))
      have hge := grownCap_ge w (c + 1) c e
      unfold Oper.wp
      simp only [execOp, hop, resolve, invoke, builtin, Sem.run_bind, Sem.run_pure, Result.andThen_ok, List.map_toArray, List.map_cons, List.map_nil, es, ex, hrun]
      refine h _ _ _ (OW.mk' w.heap.size _ hbase (heap_alloc_new w.drew _) hge (grownCap_le_maxLen w (c + 1) c e h63) ?_ ?_ hone) ⟨rfl, rfl, rfl, by simp, fun k hk _ => Below.heap_alloc w.drew _ k hk⟩ (fun j v hv => ?_)
      · simp only [Array.size_append, List.size_toArray, size_zeroCells, hvl, List.length_singleton, ty.zs]
        omega
      · simp only [Array.toList_append, List.append_assoc]
        rw [← List.append_assoc, show (c + 1) * 1 = (vs ++ [u]).length by rw [List.length_append, hvl]; simp]
        exact List.take_left
      · have h1 := (hs.rs.2.2.2.2.2 ⟨g, 0, none⟩ rfl).2 j v hv
        have hlt := (hs.base_le rfl).2
        have h2 : (w.drew.alloc (.cells (vs.toArray ++ [u].toArray ++ Builtin.zeroCells zero.cells (grownCap w (c + 1) c e - (c + 1))) e)).heap[g]? = w.heap[g]? := Below.heap_alloc w.drew _ g hlt
        rw [show (0 + j) = j by omega] at h1
        exact (World.cell?_of_block (a := ⟨g, j, none⟩) h2).trans h1
end Go.Proofs.YtokgpnkooigamaaDoor
