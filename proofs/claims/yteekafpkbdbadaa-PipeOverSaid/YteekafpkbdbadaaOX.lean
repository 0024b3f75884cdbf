/- pipe: know. -/
import Derived.Test.YteekafpkbdbadaaOV
import Derived.Test.YteekafpkbdbadaaOR
set_option maxRecDepth 100000
set_option linter.unusedVariables false
namespace Go.Proofs.Yteekafpkbdbadaa.Pi
open Go.RowKit
/-- one stream more of a sort is known -/
def stepK (T : TaS) (s u : Bool) (r : Nat) : TaS := Pi.setSo { makeS T ((T.so s u).known * 4 + r) with came := T.came ++ [(T.so s u).known * 4 + r] } s u { T.so s u with known := (T.so s u).known + 1 }
def knowK (T : TaS) (s u : Bool) (r : Nat) : Nat → TaS
  | 0 => T
  | j + 1 => stepK (knowK T s u r j) s u r
section
variable {T : TaS} {s u : Bool} {r : Nat}
theorem knowK_srv (j : Nat) : (knowK T s u r j).srv = T.srv := by induction j with | zero => rfl | succ j ih => exact ih
theorem knowK_ow (j : Nat) : (knowK T s u r j).ow = T.ow := by induction j with | zero => rfl | succ j ih => exact ih
theorem knowK_pe (j : Nat) : (knowK T s u r j).pe = T.pe := by induction j with | zero => rfl | succ j ih => exact ih
theorem knowK_ti (j : Nat) : (knowK T s u r j).ti = T.ti := by induction j with | zero => rfl | succ j ih => exact ih
theorem knowK_so (j : Nat) : (knowK T s u r j).so s u = { T.so s u with known := (T.so s u).known + j } := by
  induction j with
  | zero => rfl
  | succ j ih =>
    show (stepK (knowK T s u r j) s u r).so s u = _
    unfold stepK Pi.setSo
    simp only [and_self, if_true]
    rw [ih]
    rfl
theorem stN_eq {T T' : TaS} (h1 : T.srv = T'.srv) (h2 : T.ow = T'.ow) (h3 : T.pe = T'.pe) (id : Nat) : stN T id = stN T' id := by unfold stN; rw [h1, h2, h3]
theorem knowK_l (j id : Nat) : (knowK T s u r j).l id = if ∃ i, i < j ∧ id = ((T.so s u).known + i) * 4 + r then some (stN T id) else T.l id := by
  induction j with
  | zero => simp [knowK]
  | succ j ih =>
    show (if id = ((knowK T s u r j).so s u).known * 4 + r then some (stN (knowK T s u r j) ((((knowK T s u r j).so s u).known * 4 + r))) else (knowK T s u r j).l id) = _
    rw [knowK_so, ih]
    simp only []
    by_cases h : id = ((T.so s u).known + j) * 4 + r
    · rw [if_pos h, if_pos ⟨j, by omega, h⟩, ← h, stN_eq (knowK_srv j) (knowK_ow j) (knowK_pe j)]
    · rw [if_neg h]
      by_cases h2 : ∃ i, i < j ∧ id = ((T.so s u).known + i) * 4 + r
      · rw [if_pos h2, if_pos (by obtain ⟨i, a, b⟩ := h2; exact ⟨i, by omega, b⟩)]
      · rw [if_neg h2, if_neg (by rintro ⟨i, a, b⟩; by_cases hi : i = j
                                  · subst hi; exact h b
                                  · exact h2 ⟨i, by omega, b⟩)]
theorem knowK_none (j : Nat) (hv : ∀ i, (T.so s u).known ≤ i → T.l (i * 4 + r) = none) : (knowK T s u r j).l (((knowK T s u r j).so s u).known * 4 + r) = none := by
  rw [knowK_l, knowK_so]
  simp only []
  rw [if_neg (by rintro ⟨i, a, b⟩; omega), hv _ (by omega)]
theorem or_lt (n r : Nat) (h : n < 1152921504606846976) (hr : r < 4) : bits .or .u64 ((n * 4 : Nat) : Int) (r : Int) = ((n * 4 + r : Nat) : Int) := by
  have h1 := u64_or_nat (n * 4) r (by omega) (by omega)
  have h2 := Nat.shiftLeft_add_eq_or_of_lt (b := r) (i := 2) (by omega) n
  rw [Nat.shiftLeft_eq] at h2
  rw [show n * 4 ||| r = n * 4 + r by rw [show (4 : Nat) = 2 ^ 2 from rfl, ← h2]] at h1
  exact h1
theorem and_3 (id : Nat) (h : id < 18446744073709551616) : bits .and .u64 (id : Int) 3 = ((id % 4 : Nat) : Int) := by
  have h1 := u64_and_nat id 3 h (by decide)
  rw [show id &&& 3 = id % 4 from Nat.and_two_pow_sub_one_eq_mod id 2] at h1
  exact h1
end
section
variable {w w1 w2 : World} {role role1 : Nat → Nat} {g : Nat} {T : TaS} {Y : TaY}
theorem stp_stq {r : Nat} (h : Stp r w w1 role role1) : Stq (fun x => x = r) w w1 role role1 := ⟨⟨h.os, h.tape, h.output, h.size, h.blk, h.old⟩, h.new, h.top⟩
theorem OXZ.ox {r : Nat} {e : TypeId} {s : SA} {vs : List Value} (h : OXZ w role r e 1 s vs) : OX w role r e s.a s.n s.c vs := ⟨h.rs, h.rb, fun ad ha => by obtain ⟨a, cur, b, c⟩ := h.own ad ha; exact ⟨a, cur, b, by omega⟩⟩
theorem ox_oxz {r : Nat} {e : TypeId} {a : Option Addr} {n c : Nat} {vs : List Value} (h : OX w role r e a n c vs) : OXZ w role r e 1 ⟨a, n, c⟩ vs := ⟨h.rs, h.rb, fun ad ha => by obtain ⟨a, cur, b, c⟩ := h.own ad ha; exact ⟨a, cur, b, by simpa using c⟩⟩
theorem TZ.app (h : TZ w role g T Y) {a : Option Addr} {m c n : Nat} (hst : Stp 10 w w1 role role1) (ho : OX w1 role1 10 25 a m c (US T.came ++ [u64 n])) (hg : w1.grownBy w2 (some g))
    (hc : CR w2 g 64 [.bool T.srv, u64 T.ow.w, u64 T.ow.c, u64 T.ow.b, u64 T.ow.u, u64 T.pe.w, u64 T.pe.c, u64 T.pe.b, u64 T.pe.u, .map (some Y.ml), .map (some Y.ms), ptr Y.pu, ptr Y.ti, .int .i64 (T.news : Int), .slice a m c]) : TZ w2 role1 g { T with came := T.came ++ [n] } { Y with ca := ⟨a, m, c⟩ } ∧ Stq (fun r => r ≠ 0) w w2 role role1 := by
  have s1 := stp_stq hst
  have hr1 : role1 g = 1 := (s1.old g h.row.cr.lt).trans h.row.rb
  have s2 : Stq (fun r => r = 1) w1 w2 role1 role1 := Stq.grown hg hr1 s1.top
  have s := (s1.mono (R' := fun r => r = 1 ∨ r = 10) (fun r hr => .inr hr)).trans (s2.mono (fun r hr => .inl hr))
  have k := s.kq
  refine ⟨⟨⟨hc, hr1⟩, h.lm.1.stq h.lm.2 k (by omega), ⟨⟨h.sm.1.choose, (h.sm.1.choose_spec.stq h.sm.2 k (by omega)).1⟩, (h.sm.1.choose_spec.stq h.sm.2 k (by omega)).2⟩, fun x y => (h.so x y).stq k (by have := rso_bd x y; omega), cr_stq h.pu.1 h.pu.2 k (by omega), cr_stq h.ti.1 h.ti.2 k (by omega), ?_, fun id x hx => (h.st id x hx).stq k (fun j _ => by unfold rid; omega), h.ids, s.top⟩, s.mono (fun r hr => by omega)⟩
  have := (ox_oxz ho).stq s2.kq (by omega)
  show OXZ w2 role1 10 25 1 ⟨a, m, c⟩ (US (T.came ++ [n]))
  unfold US at this ⊢
  rw [List.map_append]
  exact this
end
end Go.Proofs.Yteekafpkbdbadaa.Pi
