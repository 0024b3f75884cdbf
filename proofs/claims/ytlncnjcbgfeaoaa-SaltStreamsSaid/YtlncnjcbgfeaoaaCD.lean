/- copy into an array of the call's own, whatever comes. -/
import Derived.Test.YtlncnjcbgfeaoaaCC
import Derived.Laws.CopyOwn
set_option maxRecDepth 100000
set_option linter.unusedVariables false
namespace Go.Proofs.Ytlncnjcbgfeaoaa
open Go.RowKit
section
variable {P : Program} {w : World} {ops : Array Oper} {rest : List Oper} {o : Oper} {f : Act} {Q : Exit → Act → World → Prop} {t e : TypeId} {zero : Value} {bytes : Nat}
theorem S_copyAB {K : Act → World → Prop} {E : Prop} (ty : STy P t e zero 1 bytes) (hgd : o.guard = none) (d s : Operand) (ho : o.op = .call { callee := .builtin .copy, args := #[d, s], argTypes := #[t, t] })
    {g N C n c : Nat} {a : Option Addr} {T : TypeId} {xs ys : List UInt8} (hd : f.eval d = .slice (some ⟨g, 0, none⟩) N C) (hs : f.eval s = .slice a n c)
    (hA : AB w g T xs) (hN : N ≤ xs.length) (hB : BS w a n c ys) (k : Nat) (hk : k = Nat.min n N)
    (h : ∀ w', AB w' g T (ys.take k ++ xs.drop k) → w.grownBy w' (some g) → K (f.put o.dst (goInt k)) w') :
    if Region.wanted o (yielded ops f.tmps) = true then Oper.wp P o f w K Q else E := by
  rw [if_pos (by simp [Region.wanted, hgd])]
  obtain ⟨i, hi, hz0, hz1, hz2⟩ := info_parts ty.info
  have hsz : (P.info? e).map (·.size) = some 1 := by rw [hi]; simp [hz1]
  have hyl := BS.len hB
  by_cases h0 : k = 0
  · subst h0
    have hrun := run_copy_none (P := P) w t t o.type e (some ⟨g, 0, none⟩) a N C n c ty.und hsz hk.symm
    unfold Oper.wp
    simp only [execOp, ho, resolve, invoke, builtin, Sem.run_bind, Sem.run_pure, Result.andThen_ok, List.map_toArray, List.map_cons, List.map_nil, hd, hs, hrun]
    exact h w (by simpa using hA) (World.grownBy.refl w _)
  · have hkn : k ≤ n := by rw [hk]; exact Nat.min_le_left _ _
    have hkN : k ≤ N := by rw [hk]; exact Nat.min_le_right _ _
    cases a with
    | none => have := (RS.nil_inv hB).1; omega
    | some ad =>
      unfold AB at hA
      have hl : ((ys.take k).map B).length = k := by rw [List.length_map, List.length_take]; omega
      have hrun := run_copy_row (P := P) w t t o.type e g 0 N C ad n c _ T ((ys.take k).map B) ty.und hsz hA (by rw [hl]; exact hk) (fun j v hv => RS.cells hB rfl j v (by
        rw [List.getElem?_map, List.getElem?_take] at hv
        rw [List.getElem?_map]
        split at hv
        · exact hv
        · cases hv)) (by rw [hl]; simp; omega) (one_B _)
      rw [hl] at hrun
      unfold Oper.wp
      simp only [execOp, ho, resolve, invoke, builtin, Sem.run_bind, Sem.run_pure, Result.andThen_ok, List.map_toArray, List.map_cons, List.map_nil, hd, hs, hrun]
      refine h _ ?_ (grownBy_setRow w g _)
      unfold AB
      rw [setRow_heap w g _ _ T _ hA]
      simp
theorem L_copyAB (ty : STy P t e zero 1 bytes) (hgd : o.guard = none) (d s : Operand) (ho : o.op = .call { callee := .builtin .copy, args := #[d, s], argTypes := #[t, t] })
    {g N C n c : Nat} {a : Option Addr} {T : TypeId} {xs ys : List UInt8} (hd : f.eval d = .slice (some ⟨g, 0, none⟩) N C) (hs : f.eval s = .slice a n c)
    (hA : AB w g T xs) (hN : N ≤ xs.length) (hB : BS w a n c ys) (k : Nat) (hk : k = Nat.min n N)
    (h : ∀ w', AB w' g T (ys.take k ++ xs.drop k) → w.grownBy w' (some g) → wpList P ops Q rest (f.put o.dst (goInt k)) w') : wpList P ops Q (o :: rest) f w :=
  wpList_step fun K hK => S_copyAB ty hgd d s ho hd hs hA hN hB k hk fun w' h1 h2 => hK _ _ (h w' h1 h2)
end
theorem u8_low4 (x : Nat) (hx : x < 256) : bits .and .u8 (x : Int) 15 = ((x % 16 : Nat) : Int) := by
  have h := u8_and_nat x 15 hx (by decide)
  rw [show (15 : Nat) = 2 ^ 4 - 1 by rfl, Nat.and_two_pow_sub_one_eq_mod] at h
  exact h
theorem and252 : ∀ x : Nat, x < 256 → x &&& 252 = x - x % 4 := by decide +kernel
theorem u8_cut2 (x : Nat) (hx : x < 256) : bits .and .u8 (x : Int) 252 = ((x - x % 4 : Nat) : Int) := by
  have h := u8_and_nat x 252 hx (by decide)
  rw [and252 x hx] at h
  exact h
end Go.Proofs.Ytlncnjcbgfeaoaa
