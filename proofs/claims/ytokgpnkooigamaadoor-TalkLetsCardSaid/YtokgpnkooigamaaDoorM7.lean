/- append onto the call's own: the result's row is the old one, or a new one. -/
import Derived.Test.YtokgpnkooigamaaDoorM6
set_option linter.unusedVariables false
namespace Go.Proofs.YtokgpnkooigamaaDoor
open Go.RowKit
/-- append onto the call's own: the result's row is the old one, or a new one -/
theorem L_append_at {P : Program} {w : World} {ops : Array Oper} {rest : List Oper} {o : Oper} {f : Act} {Q : Exit → Act → World → Prop} {t e : TypeId} {zero : Value} {bytes : Nat}
    (ty : STy P t e zero 1 bytes) {base : Nat} {a : Option Addr} {n c : Nat} {vs : List Value} (hs : OW w base e 1 a n c vs)
    {b : Option Addr} {m d : Nat} {us : List Value} (hx : RS w 1 b m d us) (s x : Operand) (hg : Region.wanted o (yielded ops f.tmps) = true)
    (hop : o.op = .call { callee := .builtin .append, args := #[s, x], argTypes := #[t, t] })
    (es : f.eval s = .slice a n c) (ex : f.eval x = .slice b m d) (hbytes : (n + m) * bytes ≤ 140737488355328) (h63 : n + m ≤ maxLen) (hbase : base ≤ w.heap.size)
    (h : ∀ a' c' w', OW w' base e 1 a' (n + m) c' (vs ++ us) → w.grownBy w' (a.map (·.block)) → (∀ ad, a' = some ad → a = some ad ∨ w.heap.size ≤ ad.block) → wpList P ops Q rest (f.put o.dst (.slice a' (n + m) c')) w') : wpList P ops Q (o :: rest) f w := by
  rcases hs.shape with ⟨rfl, rfl, rfl, rfl⟩ | ⟨g, cur, rfl, hb, hc, hcell, hmx, hsz, htk, hnc⟩
  · refine L_append ty (OW_nil w w.heap.size e 1) hx s x hg hop es ex hbytes h63 (Nat.le_refl _) fun a' c' w' o1 g1 => ?_
    exact h a' c' w' (o1.mono hbase) g1 (fun ad ha => Or.inr (o1.base_le ha).1)
  · obtain ⟨i, hi, hz0, hz1, hz2⟩ := info_parts ty.info
    refine wpList_on hg fun K hK => ?_
    cases b with
    | none =>
      obtain ⟨rfl, rfl, rfl⟩ := hx.nil_inv
      have hrun := run_append_owned_none (P := P) (w := w) base t o.type e i 1 ty.und hi (.slice (some ⟨g, 0, none⟩) n c) n vs hs.1
      unfold Oper.wp
      simp only [execOp, hop, resolve, invoke, builtin, Sem.run_bind, Sem.run_pure, Result.andThen_ok, List.map_toArray, List.map_cons, List.map_nil, es, ex, hrun]
      refine hK _ _ ?_
      have := h (some ⟨g, 0, none⟩) c w (by simpa using hs) (World.grownBy.refl w _) (fun ad ha => Or.inl ha)
      simpa using this
    | some bd =>
      have hvl : vs.length = n := by have := hs.len; omega
      have hul : us.length = m := by have := hx.len; omega
      have hone : ∀ v ∈ vs ++ us, v.oneCell' = true := by
        intro v hv; rcases List.mem_append.1 hv with hv | hv
        · exact hs.2 v hv
        · exact hx.one v hv
      by_cases hroom : n + m ≤ c
      · refine wp_append_own_spare w s x t hop base e i 1 ty.und hi hz1 g n c vs es hs.1 bd m d us ex (by omega) (hx.cells rfl) hx.one hroom fun w' h1 h2 => ?_
        exact hK _ _ (h _ _ w' ⟨h1, hone⟩ h2 (fun ad ha => Or.inl ha))
      · have hle := hs.rs.le
        have h63' : ((n + m : Nat) : Int) ≤ 9223372036854775807 := by unfold maxLen at h63; omega
        have hrun := run_append_grow (P := P) w t o.type e i zero ty.und hi hz0 ⟨g, 0, none⟩ n c vs (by rw [hz1]; exact hs.len) (by intro j v hv; exact hs.rs.cells rfl j v hv) bd m d us (by rw [hz1, hul, Nat.mul_one]) (hx.cells rfl) (by omega) h63' (growslice_fits (by omega) (by rw [hz2]; exact hbytes))
        have hge := grownCap_ge w (n + m) c e
        unfold Oper.wp
        simp only [execOp, hop, resolve, invoke, builtin, Sem.run_bind, Sem.run_pure, Result.andThen_ok, List.map_toArray, List.map_cons, List.map_nil, es, ex, hrun]
        refine hK _ _ (h _ _ _ (OW.mk' w.heap.size _ hbase (heap_alloc_new w.drew _) hge (grownCap_le_maxLen w (n + m) c e h63) ?_ ?_ hone) ⟨rfl, rfl, rfl, by simp, fun k hk _ => Below.heap_alloc w.drew _ k hk⟩ (fun ad ha => by cases ha; exact Or.inr (Nat.le_refl _)))
        · simp only [Array.size_append, List.size_toArray, size_zeroCells, hvl, hul, ty.zs]
          omega
        · simp only [Array.toList_append, List.append_assoc]
          rw [← List.append_assoc, show (n + m) * 1 = (vs ++ us).length by rw [List.length_append, hvl, hul, Nat.mul_one]]
          exact List.take_left
end Go.Proofs.YtokgpnkooigamaaDoor
