/- Maps of numbers by a sort's key, and the range over one. -/
import Derived.Test.YteekafpkbdbadaaOC
import Derived.Maps.RangeWalk
set_option maxRecDepth 100000
set_option linter.unusedVariables false
namespace Go.Proofs.Yteekafpkbdbadaa.Pi
open Go.RowKit Go.Maps
theorem lits_bool {d : Nat} {cs : List Value} {l : List Lit} (h : Try.prog.keyLits (d + 1) 4 cs = some l) : ∃ b, cs = [.bool b] := by
  unfold Program.keyLits at h
  rw [Try.underlying4] at h
  split at h
  · next b h1 => exact ⟨b, rfl⟩
  · next h1 => cases h1
  · next h1 => cases h1
  · next h1 => cases h1
  · next h1 => cases h1
  · cases h
theorem keyCells : Try.prog.cellsOf 66 = 2 := by kernel_rfl
theorem boolCells : Try.prog.cellsOf 4 = 1 := by kernel_rfl
theorem kyv_inv {v : Value} {kl : Lit} (h : keyOf Try.prog 66 v = some kl) : ∃ x : Bool × Bool, v = kyv x.1 x.2 := by
  unfold keyOf at h
  rw [Try.underlying66] at h
  simp only [] at h
  split at h
  · next hf =>
    have hf2 : v.formed Try.prog 66 = true := by
      cases hv : v.formed Try.prog 66
      · rw [hv] at hf; simp at hf
      · rfl
    cases hl : Try.prog.keyLits (Try.prog.types.size + 1) 66 v.cells.toList with
    | none => rw [hl] at h; cases h
    | some ls =>
      obtain ⟨d, hd⟩ : ∃ d, Try.prog.types.size = d + 1 := ⟨Try.prog.types.size - 1, by have : 0 < Try.prog.types.size := of_decide_eq_true (by kernel_rfl); omega⟩
      rw [hd] at hl
      unfold Value.formed at hf2
      rw [Try.underlying66] at hf2
      cases v with
      | agg cs =>
        rw [keyCells] at hf2
        have hs : cs.size = 2 := by simpa using hf2
        obtain ⟨c0, c1, rfl⟩ : ∃ c0 c1, cs = #[c0, c1] := by
          obtain ⟨l⟩ := cs
          match l, hs with
          | [c0, c1], _ => exact ⟨c0, c1, rfl⟩
        unfold Program.keyLits at hl
        rw [Try.underlying66, keyCells] at hl
        simp [boolCells, Value.cells, Option.bind_eq_some_iff] at hl
        obtain ⟨a, h1, b, ⟨c, h2, _⟩, _⟩ := hl
        obtain ⟨x, hx⟩ := lits_bool h1
        obtain ⟨y, hy⟩ := lits_bool h2
        injection hx with hx
        injection hy with hy
        exact ⟨⟨x, y⟩, by rw [hx, hy]; rfl⟩
      | _ => simp at hf2
  · cases h
def datU : Option Nat → DataW Unit
  | none => .nil
  | some v => .lit (.int .u64 (v : Int))
/-- a map of numbers by a sort's key -/
structure KM (w : World) (b n : Nat) (m : Bool → Bool → Option Nat) : Prop where
  own : ∃ D : DataW Unit, w.ownsMap Try.prog 66 (plainElem Try.prog 25) b n D ∧ IsMap D ∧ ∀ x y, D.atKey (kyl x y) .nil = datU (m x y)
/-- a range over it under way -/
structure KR (w : World) (b r : Nat) (m : Bool → Bool → Option Nat) (left : Bool → Bool → Bool) (cnt : Nat) : Prop where
  rg : ∃ n, ∃ D : DataW Unit, ∃ L, w.ranges Try.prog 66 (plainElem Try.prog 25) b r n D L cnt ∧ (∀ x y, D.atKey (kyl x y) .nil = datU (m x y)) ∧ ∀ x y, L (kyl x y) = left x y
theorem same_ky (u z x y : Bool) : (kyl u z).sameKey (kyl x y) = (u == x && z == y) := by
  by_cases h : u = x ∧ z = y
  · obtain ⟨rfl, rfl⟩ := h
    rw [WideAt.sameKey_self (lawKey.key (key_ky u z))]
    simp
  · cases hs : (kyl u z).sameKey (kyl x y)
    · symm
      rw [Bool.and_eq_false_iff]
      by_cases hu : u = x
      · exact Or.inr (by simpa using fun hz => h ⟨hu, hz⟩)
      · exact Or.inl (by simpa using hu)
    · exact absurd (kyl_inj (WideAt.sameKey_eq hs)) h
section
variable {w w' : World} {b n r cnt : Nat} {m : Bool → Bool → Option Nat} {left : Bool → Bool → Bool}
theorem KM.made (w : World) : KM (w.alloc (.map #[] 0)) w.heap.size 0 (fun _ _ => none) := ⟨.map [], World.ownsMap_made _ _ _ _, ⟨[], rfl⟩, fun x y => by simp [DataW.atKey, datU]⟩
theorem KM.lt (h : KM w b n m) : b < w.heap.size := by obtain ⟨D, h1, _⟩ := h.own; exact h1.lt
theorem KM.kept (h : KM w b n m) {row : Option Nat} (hg : w.grownBy w' row) (hne : some b ≠ row) : KM w' b n m := by
  obtain ⟨D, h1, h2, h3⟩ := h.own
  exact ⟨D, h1.kept hg hne, h2, h3⟩
theorem KM.bel (h : KM w b n m) (hb : Below w.heap.size w w') : KM w' b n m := h.kept (row := none) (grown_bel hb none) (by simp)
theorem KM.cast {m' : Bool → Bool → Option Nat} (h : KM w b n m) (he : ∀ a c, m a c = m' a c) : KM w b n m' := by
  obtain ⟨D, h1, h2, h3⟩ := h.own
  exact ⟨D, h1, h2, fun x y => by rw [h3, he]⟩
theorem KM.put (x y : Bool) (s : Nat) {D : DataW Unit} (hm : IsMap D) (h3 : ∀ x y, D.atKey (kyl x y) .nil = datU (m x y)) (w' : World) (n' : Nat)
    (h1 : w'.ownsMap Try.prog 66 (plainElem Try.prog 25) b n' (D.put (kyl x y) (datU (some s)))) : KM w' b n' (fun u v => if u = x ∧ v = y then some s else m u v) := by
  refine ⟨_, h1, ?_, fun u v => ?_⟩
  · obtain ⟨es, rfl⟩ := hm
    exact ⟨_, rfl⟩
  · by_cases hj : u = x ∧ v = y
    · obtain ⟨rfl, rfl⟩ := hj
      rw [atKey_put_same hm (lawKey.key (key_ky u v)), if_pos ⟨rfl, rfl⟩]
    · rw [atKey_put_other (fun he => hj (kyl_inj he)), h3, if_neg hj]
theorem S_kput {ops : Array Oper} {o : Oper} {f : Act} {K : Act → World → Prop} {Q : Exit → Act → World → Prop} {E : Prop} (hg : Region.wanted o (yielded ops f.tmps) = true) (x y v : Operand) (hop : o.op = Op.insert 72 x y v)
    (h : KM w b n m) (hn : n < maxLen) (a c : Bool) (s : Nat) (hs : s < 18446744073709551616) (hm : f.eval x = .map (some b)) (hx : f.eval y = .agg #[.bool a, .bool c]) (hv : f.eval v = .int .u64 (s : Int))
    (hK : ∀ w', KM w' b (n + 1) (fun u v => if u = a ∧ v = c then some s else m u v) → w.grownBy w' (some b) → K (f.put o.dst undef) w') : if Region.wanted o (yielded ops f.tmps) = true then Oper.wp Try.prog o f w K Q else E := by
  rw [if_pos hg]
  obtain ⟨D, h1, h2, h3⟩ := h.own
  obtain ⟨w', hrun, r1, r2⟩ := h1.update lawKey Try.underlying72 hn (key_ky a c) (plainElem_int Try.underlying25 (WalkArith.wf_u64 (n := s) (by omega)))
  have hrun2 : (Instr.mapUpdate 72 (.map (some b)) (.agg #[.bool a, .bool c]) (.int .u64 (s : Int))).run Try.prog w = .ok () w' := hrun
  unfold Oper.wp
  simp [execOp, hop, hm, hx, hv, hrun2, Result.andThen]
  exact hK w' (KM.put a c s h2 h3 w' _ r1) r2
theorem KR.kept (h : KR w b r m left cnt) {row : Option Nat} (hg : w.grownBy w' row) (h1 : some b ≠ row) (h2 : some r ≠ row) : KR w' b r m left cnt := by
  obtain ⟨n, D, L, q, q2⟩ := h.rg
  exact ⟨n, D, L, q.kept hg h1 h2, q2⟩
theorem KR.bel (h : KR w b r m left cnt) (hb : Below w.heap.size w w') : KR w' b r m left cnt := h.kept (row := none) (grown_bel hb none) (by simp) (by simp)
theorem KR.lt (h : KR w b r m left cnt) : b < w.heap.size ∧ r < w.heap.size := by
  obtain ⟨n, D, L, q, q2⟩ := h.rg
  exact ⟨q.owns.lt, q.lt⟩
theorem L_krange {ops : Array Oper} {rest : List Oper} {o : Oper} {f : Act} {Q : Exit → Act → World → Prop} (hg : o.guard = none) (x : Operand) (hop : o.op = Op.range 72 x) (h : KM w b n m) (hm : f.eval x = .map (some b))
    (hK : ∀ w' left cnt, KR w' b w.heap.size m left cnt → (∀ x y, m x y ≠ none → left x y = true) → w.grownBy w' none → w'.heap.size = w.heap.size + 1 → wpList Try.prog ops Q rest (f.put o.dst (.pointer (some ⟨w.heap.size, 0, none⟩))) w') : wpList Try.prog ops Q (o :: rest) f w := by
  obtain ⟨D, h1, h2, h3⟩ := h.own
  refine wpList_range_own w hg x 72 hop 66 25 lawKey Try.underlying72 _ b n D hm h1 fun w' r1 r2 r3 => hK w' (fun x y => has D (kyl x y)) _ ⟨n, D, _, r1, h3, fun _ _ => rfl⟩ (fun x y hxy => ?_) r2 r3
  cases hh : has D (kyl x y)
  · have := atKey_of_not_has hh .nil
    rw [h3] at this
    cases hmx : m x y with
    | none => exact absurd hmx hxy
    | some v => rw [hmx] at this; cases this
  · rfl
theorem L_knext {ops : Array Oper} {rest : List Oper} {o : Oper} {f : Act} {Q : Exit → Act → World → Prop} (hg : o.guard = none) (it : Operand) (hop : o.op = Op.next it false) (h : KR w b r m left cnt) (hit : f.eval it = .pointer (some ⟨r, 0, none⟩))
    (hDone : (∀ x y, left x y = false) → wpList Try.prog ops Q rest (f.put o.dst (.tuple #[.bool false])) w)
    (hMore : ∀ (x y : Bool) (v : Nat) (w' : World) (cnt' : Nat), left x y = true → m x y = some v → KR w' b r m (fun u z => left u z && !(u == x && z == y)) cnt' → cnt' < cnt → w.grownBy w' (some r) → w'.heap.size = w.heap.size → (Instr.entry (.pointer (some ⟨r, 0, none⟩))).run Try.prog w' = .ok (.tuple #[.agg #[.bool x, .bool y], .int .u64 (v : Int)]) w' → wpList Try.prog ops Q rest (f.put o.dst (.tuple #[.bool true, .agg #[.bool x, .bool y], .int .u64 (v : Int)])) w') : wpList Try.prog ops Q (o :: rest) f w := by
  obtain ⟨n, D, L, q, h3, h4⟩ := h.rg
  refine wpList_next_ranges w hg it hop 66 lawKey (plainElem Try.prog 25) (fun x : Bool × Bool => kyv x.1 x.2) (Value.int .u64) (fun key kl hk => kyv_inv hk) (fun v y hv => by obtain ⟨c, rfl, _⟩ := plainElem_int_inv Try.underlying25 hv; exact ⟨c, rfl⟩) b r n D L cnt hit q (fun _ hl => hDone fun x y => by rw [← h4]; exact hl _) ?_
  intro x c kl y w' cnt' hk hl hv hat hr hlt hgr hsz hen
  rw [key_ky] at hk
  injection hk with hk
  subst hk
  obtain ⟨c', hc', hy, hwf⟩ := plainElem_int_inv Try.underlying25 hv
  injection hc' with _ hc'
  subst hc'
  have ha := hat .nil
  rw [h3, hy] at ha
  cases hmx : m x.1 x.2 with
  | none => rw [hmx] at ha; cases ha
  | some v =>
    rw [hmx] at ha
    injection ha with ha
    injection ha with _ ha
    subst ha
    exact hMore x.1 x.2 v w' cnt' (by rw [← h4]; exact hl) hmx ⟨n, D, _, hr, h3, fun u z => by rw [h4, same_ky]⟩ hlt hgr hsz hen
end
end Go.Proofs.Yteekafpkbdbadaa.Pi
