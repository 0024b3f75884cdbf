/- A region that draws its order and whose stores come last: what a load yields up to the first store. -/
import Derived.Test.YteekafpkbdbadaaM3
import Derived.Deep.RegionHeld3
set_option linter.unusedVariables false
namespace Go.Proofs.Yteekafpkbdbadaa
open Go.RowKit
section
variable {P : Program} {ops : Array Oper} {Q : Exit → Act → World → Prop} {md : Region.Mode} {S : World → Prop} {st : Nat}
/-- Whatever order is picked from here on, S holds behind each operation until number st has come up. -/
def wpAnyU (P : Program) (md : Region.Mode) (ops : Array Oper) (Q : Exit → Act → World → Prop) (st : Nat) (S : World → Prop) : Nat → Array Bool → Act → World → Prop
  | 0, L, a, w => Region.ready md ops L = [] ∧ Q .normal a w
  | n + 1, L, a, w => (Region.ready md ops L = [] → Q .normal a w) ∧
      ∀ i ∈ Region.ready md ops L, wpOp P ops Q i (fun b u => ((L.setIfInBounds i true).getD st true = false → S u) ∧ wpAnyU P md ops Q st S n (L.setIfInBounds i true) b u) a w
theorem wpAny_of_U : ∀ (n : Nat) (L : Array Bool) (a : Act) (w : World), wpAnyU P md ops Q st S n L a w → wpAny P md ops Q n L a w
  | 0, _, _, _, h => h
  | n + 1, _, _, _, h => ⟨h.1, fun i hi => wpOp_mono (fun b u k => wpAny_of_U n _ b u k.2) (h.2 i hi)⟩
/-- does number st wait for number i? -/
def waitsB (md : Region.Mode) (ops : Array Oper) (st i : Nat) : Bool := match ops[st]? with
  | none => false
  | some o => o.after.any fun e => Region.binds md e && e.on == i
theorem not_ready {i : Nat} (hw : waitsB md ops st i = true) {L : Array Bool} (hi : i ∈ Region.ready md ops L) : st ∉ Region.ready md ops L := fun hj => by
  obtain ⟨_, o, ho, hall⟩ := mem_ready.1 hj
  unfold waitsB at hw
  rw [ho] at hw
  rw [Array.any_eq_true'] at hw
  obtain ⟨e, he, hw⟩ := hw
  rw [Bool.and_eq_true, beq_iff_eq] at hw
  obtain ⟨hb, rfl⟩ := hw
  have h1 := hall e he hb
  have h0 := (mem_ready.1 hi).1
  rcases Nat.lt_or_ge e.on L.size with h' | h'
  · simp [h'] at h0 h1; rw [h0] at h1; cases h1
  · simp [Array.getElem?_eq_none h'] at h1
theorem wpAnyU_first {i : Nat} {oi : Oper} {v : Value} (hi : ops[i]? = some oi) (hsel : ∀ (j : Nat) (o : Oper) cs b, ops[j]? = some o → o.op ≠ .select cs b)
    (hQ : ∀ c a w, Q (.panic c) (a.put oi.dst v) w → Q (.panic c) a w) (hw : waitsB md ops st i = true) (hst : i ≠ st) :
    ∀ (n : Nat) (L : Array Bool) (a : Act) (w : World),
      (∀ j oj, ops[j]? = some oj → j ≠ i → L.getD j true = false → (∀ e ∈ oj.after, Region.binds md e = true → e.on ≠ i) → oi.apart ops oj = true) →
      i ∈ Region.ready md ops L → YieldsIf P ops S oi v a → L.getD st true = false → S w →
      wpAnyU P md ops Q st S n (L.setIfInBounds i true) (a.put oi.dst v) w → wpAnyU P md ops Q st S (n + 1) L a w := by
  intro n
  induction n with
  | zero =>
    intro L a w _ hr hy _ hS H
    refine ⟨fun h => (by rw [h] at hr; cases hr), fun j hj => ?_⟩
    by_cases hji : j = i
    · subst hji; exact hy.wpOp hi hS ⟨fun _ => hS, H⟩
    · have := ready_mono hj hji
      rw [H.1] at this
      cases this
  | succ n ih =>
    intro L a w hfree hr hy hL hS H
    refine ⟨fun h => (by rw [h] at hr; cases hr), fun j hj => ?_⟩
    by_cases hji : j = i
    · subst hji; exact hy.wpOp hi hS ⟨fun _ => hS, H⟩
    · have hjs : j ≠ st := fun he => not_ready hw hr (he ▸ hj)
      have hL1 : (L.setIfInBounds j true).getD st true = false := by rw [getD_set_ne true hjs]; exact hL
      have hL2 : ((L.setIfInBounds i true).setIfInBounds j true).getD st true = false := by rw [getD_set_ne true hjs, getD_set_ne true hst]; exact hL
      have h1 := H.2 j (ready_mono hj hji)
      obtain ⟨hjun, oj, hoj, hall⟩ := mem_ready.1 hj
      have hnot : ∀ e ∈ oj.after, Region.binds md e = true → e.on ≠ i := fun e he hb heq => by
        have h1 := hall e he hb
        have h0 := (mem_ready.1 hr).1
        rw [heq] at h1
        rcases Nat.lt_or_ge i L.size with h' | h'
        · simp [h'] at h0 h1; rw [h0] at h1; cases h1
        · simp [Array.getElem?_eq_none h'] at h1
      have h2 := wpOp_putIf hoj (hfree j oj hoj hji hjun hnot) (fun cs b => hsel i oi cs b hi) (fun cs b => hsel j oj cs b hoj) hQ hy h1
      have hfree' : ∀ k ok, ops[k]? = some ok → k ≠ i → (L.setIfInBounds j true).getD k true = false →
          (∀ e ∈ ok.after, Region.binds md e = true → e.on ≠ i) → oi.apart ops ok = true := fun k ok hk hki hun hno => by
        refine hfree k ok hk hki ?_ hno
        by_cases hjk : j = k
        · subst hjk; exact hjun
        · rw [getD_set_ne true hjk] at hun; exact hun
      refine wpOp_mono (fun b u h3 => ⟨fun _ => h3.2.1 hL2, ih (L.setIfInBounds j true) b u hfree' (ready_mono hr (Ne.symm hji)) h3.1 hL1 (h3.2.1 hL2) ?_⟩) h2
      rw [Array.setIfInBounds_comm _ _ hji]
      exact h3.2.2
/-- take number i first -/
theorem wpAnyU_take {i : Nat} {oi : Oper} {v : Value} {n : Nat} {L : Array Bool} {a : Act} {w : World} (hi : ops[i]? = some oi)
    (hs : Region.noSelect ops = true) (hf : Region.free md ops L i = true) (hr : (Region.ready md ops L).contains i = true) (hw : waitsB md ops st i = true) (hst : (i == st) = false) (hL : L.getD st true = false)
    (hQ : ∀ c a w, Q (.panic c) (a.put oi.dst v) w → Q (.panic c) a w) (hy : YieldsIf P ops S oi v a) (hS : S w)
    (h : wpAnyU P md ops Q st S n (L.setIfInBounds i true) (a.put oi.dst v) w) : wpAnyU P md ops Q st S (n + 1) L a w :=
  wpAnyU_first hi (Region.noSelect_spec hs) hQ hw (by simpa using hst) n L a w (Region.free_spec hi hf) (by simpa using hr) hy hL hS h
def AllReadyU (P : Program) (md : Region.Mode) (ops : Array Oper) (Q : Exit → Act → World → Prop) (st : Nat) (S : World → Prop) (n : Nat) (L : Array Bool) (a : Act) (w : World) (rs : List Nat) : Prop :=
  ∀ i ∈ rs, wpOp P ops Q i (fun b u => ((L.setIfInBounds i true).getD st true = false → S u) ∧ wpAnyU P md ops Q st S n (L.setIfInBounds i true) b u) a w
theorem AllReadyU.nil {n : Nat} {L : Array Bool} {a : Act} {w : World} : AllReadyU P md ops Q st S n L a w [] := fun _ h => by cases h
/-- a step ahead of number st -/
theorem AllReadyU.cons {n : Nat} {L : Array Bool} {a : Act} {w : World} {i : Nat} {o : Oper} {rs : List Nat} (ho : ops[i]? = some o)
    (h : ∀ K : Act → World → Prop, Shut (∀ b u, S u → (S u → wpAnyU P md ops Q st S n (L.setIfInBounds i true) b u) → K b u) → if Region.wanted o (yielded ops a.tmps) = true then Oper.wp P o a w K Q else K (a.put o.dst undef) w)
    (hs : AllReadyU P md ops Q st S n L a w rs) : AllReadyU P md ops Q st S n L a w (i :: rs) := fun j hj => by
  rcases List.mem_cons.1 hj with rfl | hj
  · exact wpOp_step ho (fun K hK => h K (fun b u hS hW => hK b u ⟨fun _ => hS, hW hS⟩))
  · exact hs j hj
/-- number st, or a step behind it -/
theorem AllReadyU.consT {n : Nat} {L : Array Bool} {a : Act} {w : World} {i : Nat} {o : Oper} {rs : List Nat} (ho : ops[i]? = some o) (hst : (L.setIfInBounds i true).getD st true = true)
    (h : ∀ K : Act → World → Prop, Shut (∀ b u, wpAnyU P md ops Q st S n (L.setIfInBounds i true) b u → K b u) → if Region.wanted o (yielded ops a.tmps) = true then Oper.wp P o a w K Q else K (a.put o.dst undef) w)
    (hs : AllReadyU P md ops Q st S n L a w rs) : AllReadyU P md ops Q st S n L a w (i :: rs) := fun j hj => by
  rcases List.mem_cons.1 hj with rfl | hj
  · exact wpOp_step ho (fun K hK => h K (fun b u hW => hK b u ⟨fun hf => (by rw [hst] at hf; cases hf), hW⟩))
  · exact hs j hj
theorem wpAnyU_ready {rs : List Nat} {n : Nat} {L : Array Bool} {a : Act} {w : World} (hr : Region.ready md ops L = rs) (hne : rs ≠ [])
    (h : AllReadyU P md ops Q st S n L a w rs) : wpAnyU P md ops Q st S (n + 1) L a w := ⟨fun h0 => absurd (hr ▸ h0) hne, hr ▸ h⟩
theorem wpAnyU_done {L : Array Bool} {a : Act} {w : World} (hr : Region.ready md ops L = []) (h : Q .normal a w) : ∀ n, wpAnyU P md ops Q st S n L a w
  | 0 => ⟨hr, h⟩
  | _ + 1 => ⟨fun _ => h, by rw [hr]; simp⟩
theorem wp_region_U (st : Nat) {id : Nat} {a : Act} {w : World} (hm : P.follows .mixedOrders = true) (hS : S w.drew)
    (h : S w.drew → wpAnyU P .any ops Q st S ops.size (Array.replicate ops.size false) a w.drew) : (Code.region id ops true).wp P Q a w :=
  wp_region_any hm (wpAny_of_U _ _ _ _ (h hS))
end
end Go.Proofs.Yteekafpkbdbadaa
