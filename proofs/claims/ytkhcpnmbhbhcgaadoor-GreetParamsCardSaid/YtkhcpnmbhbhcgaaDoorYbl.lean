/- texts UP UQ UV UR UT UY in one. -/
import Derived.Test.YtkhcpnmbhbhcgaaDoorYbk
import Derived.Test.YtkhcpnmbhbhcgaaDoorYba
import Derived.Maps.OwnOps
import Derived.Maps.Views

/- greet's params read (plain), and the set of what was seen. -/
set_option maxRecDepth 100000
set_option linter.unusedVariables false
namespace Go.Proofs.YtkhcpnmbhbhcgaaDoor
open Go.RowKit Go.Joins Go.Maps
theorem zeroBool (w : World) : (zeroValue 4).run Tryd.prog w = .ok (.bool false) w := by kernel_rfl
theorem law64 : Keyed Tryd.prog 37 := int_keyed Tryd.underlying37
theorem key64 (id : Nat) (h : id < 18446744073709551616) : keyOf Tryd.prog 37 (.int .u64 (id : Int)) = some (.int .u64 (id : Int)) :=
  keyOf_int_mk Tryd.underlying37 (WalkArith.wf_u64 (by omega))
structure SB (w : World) (b n : Nat) (ids : List Nat) : Prop where
  own : ∃ D : DataW Unit, w.ownsMap Tryd.prog 37 (plainElem Tryd.prog 4) b n D ∧ IsMap D ∧ ∀ id : Nat, D.atKey (.int .u64 (id : Int)) (.lit (.bool false)) = .lit (.bool (decide (id ∈ ids)))
section
variable {w w' : World} {b n : Nat} {ids : List Nat}
theorem SB.made (w : World) : SB (w.alloc (.map #[] 0)) w.heap.size 0 [] := ⟨.map [], World.ownsMap_made _ _ _ _, ⟨[], rfl⟩, fun id => by simp [DataW.atKey]⟩
theorem SB.lt (h : SB w b n ids) : b < w.heap.size := by obtain ⟨D, h1, _⟩ := h.own; exact h1.lt
theorem SB.kept (h : SB w b n ids) {row : Option Nat} (hg : w.grownBy w' row) (hne : some b ≠ row) : SB w' b n ids := by
  obtain ⟨D, h1, h2, h3⟩ := h.own
  exact ⟨D, h1.kept hg hne, h2, h3⟩
theorem SB.bel (h : SB w b n ids) (hb : Below w.heap.size w w') : SB w' b n ids :=
  h.kept (row := none) ⟨hb.os, hb.tape, hb.output, hb.size, fun k hk _ => hb.block k hk⟩ (by simp)
theorem SB.look (h : SB w b n ids) (id : Nat) (hid : id < 18446744073709551616) : (Instr.lookup 84 (.map (some b)) (.int .u64 (id : Int)) false).run Tryd.prog w = .ok (.bool (decide (id ∈ ids))) w := by
  obtain ⟨D, h1, h2, h3⟩ := h.own
  obtain ⟨v, ps, hrun, hv⟩ := h1.lookup law64 Tryd.underlying84 (zeroBool w) (plainElem_bool Tryd.underlying4 false) (key64 id hid)
  rw [h3] at hv
  unfold plainElem at hv
  rw [Tryd.underlying4] at hv
  cases v <;> simp at hv
  rw [hrun, hv.1]
theorem SB.put (h : SB w b n ids) (id : Nat) {D : DataW Unit} (hm : IsMap D) (h3 : ∀ id : Nat, D.atKey (.int .u64 (id : Int)) (.lit (.bool false)) = .lit (.bool (decide (id ∈ ids)))) (w' : World) (n' : Nat)
    (h1 : w'.ownsMap Tryd.prog 37 (plainElem Tryd.prog 4) b n' (D.put (.int .u64 (id : Int)) (.lit (.bool true)))) : SB w' b n' (id :: ids) := by
  refine ⟨_, h1, ?_, fun j => ?_⟩
  · obtain ⟨es, rfl⟩ := hm
    exact ⟨_, rfl⟩
  · by_cases hj : j = id
    · subst hj
      rw [atKey_put_same (k := .int .u64 (j : Int)) hm True.intro]
      simp
    · rw [atKey_put_other (by intro he; injection he with _ he; exact hj (by omega)), h3]
      simp [hj]
theorem L_mapput {ops : Array Oper} {rest : List Oper} {o : Oper} {f : Act} {Q : Exit → Act → World → Prop} (hg : o.guard = none) (m x v : Operand) (hop : o.op = Op.mapUpdate 84 m x v)
    (h : SB w b n ids) (hn : n < maxLen) (id : Nat) (hid : id < 18446744073709551616) (hm : f.eval m = .map (some b)) (hx : f.eval x = .int .u64 (id : Int)) (hv : f.eval v = .bool true)
    (hK : ∀ w', SB w' b (n + 1) (id :: ids) → w.grownBy w' (some b) → wpList Tryd.prog ops Q rest (f.put o.dst undef) w') : wpList Tryd.prog ops Q (o :: rest) f w := by
  obtain ⟨D, h1, h2, h3⟩ := h.own
  exact wpList_mapUpdate_own w hg m x v 84 hop 37 4 law64 Tryd.underlying84 _ b n D hm h1 hn _ _ _ hx hv (key64 id hid) _ [] (plainElem_bool Tryd.underlying4 true) (fun w' q1 q2 => hK w' (h.put id h2 h3 w' _ q1) q2)
end
/-- one param, if it is known -/
def setP (id : Nat) (t : List UInt8) : Nat → List Nat → Option (List Nat)
  | 0, acc => some acc
  | i + 1, acc => match setP id t i acc with
    | none => none
    | some a => if idsN.getD i 0 = id then (match takeS t with | some (n, []) => some (a.set i n) | _ => none) else some a
theorem setP_none {id : Nat} {t : List UInt8} {acc : List Nat} {i : Nat} (h : setP id t i acc = none) : ∀ k, setP id t (i + k) acc = none
  | 0 => h
  | k + 1 => by rw [← Nat.add_assoc, setP, setP_none h k]
theorem setP_len {id : Nat} {t : List UInt8} {acc : List Nat} : ∀ {i : Nat} {a : List Nat}, setP id t i acc = some a → a.length = acc.length
  | 0, a, h => by cases h; rfl
  | i + 1, a, h => by
    rw [setP] at h
    cases h1 : setP id t i acc with
    | none => rw [h1] at h; cases h
    | some a1 =>
      rw [h1] at h
      dsimp only at h
      have ih := setP_len h1
      split at h
      · split at h
        · cases h; rw [List.length_set]; exact ih
        · cases h
      · cases h; exact ih
/-- params, one behind the other -/
def prS : Nat → List UInt8 → List Nat → List Nat → Option (List Nat)
  | 0, _, _, acc => some acc
  | f + 1, b, seen, acc => if b = [] then some acc else
    match takeS b with
    | none => none
    | some (id, r) =>
      match ttS r 1073741824 with
      | none => none
      | some (t, r2) => if id ∈ seen then none else
        match setP id t 6 acc with
        | none => none
        | some a => prS f r2 (id :: seen) a
theorem prS_nil (f : Nat) (seen acc : List Nat) : prS f [] seen acc = some acc := by cases f <;> simp [prS]
theorem prS_cons {f : Nat} {b : List UInt8} {seen acc : List Nat} (h : b ≠ []) (hf : b.length ≤ f) : ∃ f', f = f' + 1 ∧ prS f b seen acc = match takeS b with
    | none => none
    | some (id, r) =>
      match ttS r 1073741824 with
      | none => none
      | some (t, r2) => if id ∈ seen then none else
        match setP id t 6 acc with
        | none => none
        | some a => prS f' r2 (id :: seen) a := by
  have := List.length_pos_iff.2 h
  obtain ⟨f', rfl⟩ : ∃ f', f = f' + 1 := ⟨f - 1, by omega⟩
  exact ⟨f', rfl, by rw [prS, if_neg h]⟩
theorem takeS_lt {p r : List UInt8} {n : Nat} (h : takeS p = some (n, r)) : r.length < p.length := by
  cases p with
  | nil => cases h
  | cons b bs =>
    rw [takeS_cons] at h
    split at h
    · cases h
    · injection h with h; injection h with h1 h2
      rw [← h2, List.length_drop]
      have : 0 < 2 ^ (b.toNat / 64) := Nat.two_pow_pos _
      simp only [List.length_cons]
      omega
theorem ttS_lt {p t r : List UInt8} {most : Nat} (h : ttS p most = some (t, r)) : r.length < p.length ∧ t.length ≤ p.length := by
  unfold ttS at h
  cases hT : takeS p with
  | none => rw [hT] at h; cases h
  | some nr =>
    obtain ⟨n, q⟩ := nr
    rw [hT] at h
    dsimp only at h
    have h1 := takeS_lt hT
    split at h
    · cases h
    · injection h with h; injection h with h2 h3
      rw [← h2, ← h3, List.length_drop, List.length_take]
      omega
/-- what a text may measure does not matter where there is little -/
theorem ttS_most {p : List UInt8} {m k : Nat} (hm : p.length ≤ m) (hk : p.length ≤ k) : ttS p m = ttS p k := by
  unfold ttS
  cases hT : takeS p with
  | none => rfl
  | some nr =>
    obtain ⟨n, q⟩ := nr
    dsimp only
    have h1 := takeS_lt hT
    by_cases h : q.length < n
    · rw [if_pos (.inr h), if_pos (.inr h)]
    · rw [if_neg (by omega), if_neg (by omega)]
theorem beNat_bd : ∀ (bs : List UInt8) (v : Nat), beNat bs v < (v + 1) * 256 ^ bs.length
  | [], v => by simp [beNat]
  | b :: bs, v => by
    rw [beNat]
    have h := beNat_bd bs (v * 256 + b.toNat)
    have hb := b.toNat_lt
    rw [List.length_cons, Nat.pow_succ]
    refine Nat.lt_of_lt_of_le h ?_
    rw [show (v + 1) * (256 ^ bs.length * 256) = ((v + 1) * 256) * 256 ^ bs.length by rw [Nat.mul_comm (256 ^ bs.length) 256, Nat.mul_assoc]]
    exact Nat.mul_le_mul_right _ (by omega)
theorem takeS_bd {p r : List UInt8} {n : Nat} (h : takeS p = some (n, r)) : n < 4611686018427387904 := by
  cases p with
  | nil => cases h
  | cons b bs =>
    rw [takeS_cons] at h
    split at h
    · cases h
    · injection h with h; injection h with h1 h2
      rw [← h1]
      have hb := b.toNat_lt
      have hq : b.toNat / 64 < 4 := by omega
      have h3 := beNat_bd (bs.take (2 ^ (b.toNat / 64) - 1)) (b.toNat % 64)
      have hl : (bs.take (2 ^ (b.toNat / 64) - 1)).length ≤ 2 ^ (b.toNat / 64) - 1 := by rw [List.length_take]; omega
      have hl2 : (bs.take (2 ^ (b.toNat / 64) - 1)).length ≤ 7 := by
        rcases (show b.toNat / 64 = 0 ∨ b.toNat / 64 = 1 ∨ b.toNat / 64 = 2 ∨ b.toNat / 64 = 3 by omega) with h | h | h | h <;> rw [h] at hl ⊢ <;> omega
      have h4 : 256 ^ (bs.take (2 ^ (b.toNat / 64) - 1)).length ≤ 256 ^ 7 := Nat.pow_le_pow_right (by decide) hl2
      have h5 : (b.toNat % 64 + 1) * 256 ^ (bs.take (2 ^ (b.toNat / 64) - 1)).length ≤ 64 * 256 ^ 7 := Nat.mul_le_mul (by omega) h4
      omega
end Go.Proofs.YtkhcpnmbhbhcgaaDoor

/- greet.ReadParams: the walk. -/
set_option maxRecDepth 100000
set_option linter.unusedVariables false
namespace Go.Proofs.YtkhcpnmbhbhcgaaDoor
open Go.RowKit Go.Joins Go.Maps
theorem results_row1s {P : Program} {fn : Func} {p : Tmp} {s : Nat} {ty : TypeId} (h : fn.results = #[.cell p ty, .tmp s]) (tmps : Array Value) (w : World) (g : Nat) (t : TypeId) (cs : Array Value) (d : TypeDesc)
    (hp : tmps.getD p undef = .pointer (some ⟨g, 0, none⟩)) (hg : w.heap[g]? = some (.cells cs t (0, 0)))
    (hu : P.underlying ty = some d) (hd : (match d with | .struct _ | .array _ _ => true | _ => false) = true) (hi : (P.info? ty).map (·.size) = some cs.size) :
    (results fn tmps).run P w = .ok (.tuple #[.agg cs, tmps.getD s undef]) w := by
  have hp' : tmps[p]?.getD undef = .pointer (some ⟨g, 0, none⟩) := by simpa using hp
  simp [results, h, hp', asAddr, run_loadVar_row w g t ty cs _ d hg hu hd hi, Result.andThen]
def z6 : List Nat := [0, 0, 0, 0, 0, 0]
/-- what ReadParams says of bytes -/
def RPost (R : Option (List Nat)) (w : World) (e : Ending) (w' : World) : Prop :=
  (match R with
  | some l => l.length = 6 ∧ e = .returned (.tuple #[.agg (U6 l).toArray, .int .i64 0])
  | none => e = .returned (.tuple #[.agg (U6 z6).toArray, .int .i64 4])) ∧ Below w.heap.size w w'
/-- what the loop holds: the result's row, the numbers, the set, the rest -/
structure RQ (w wr : World) (k : Nat) (b : List UInt8) (a : Option Addr) (n c : Nat) (seen acc : List Nat) (m : Nat) : Prop where
  z : R6 wr k 60 z6
  l : R6 wr (k + 1) 58 acc
  s : SB wr (k + 1 + 1) m seen
  bel : Below k w wr
  bs : BS wr a n c b
  ti : TI wr 0
  al : acc.length = 6
  bl : b.length ≤ 1000
  mb : m + b.length ≤ 1000
  sb : ∀ id ∈ seen, id < 4611686018427387904
section
variable {w wr w' : World} {k : Nat} {b : List UInt8} {a : Option Addr} {n c : Nat} {seen acc : List Nat} {m : Nat}
theorem RQ.kl (h : RQ w wr k b a n c seen acc m) : k + 1 + 1 < wr.heap.size := h.s.lt
theorem RQ.next (h : RQ w wr k b a n c seen acc m) (hb : Below wr.heap.size wr w') : RQ w w' k b a n c seen acc m :=
  ⟨h.z.bel hb, h.l.bel hb, h.s.bel hb, h.bel.trans (hb.mono (by have := h.kl; omega)), RS.below h.bs hb (Nat.le_refl _), h.ti.bel hb (Nat.le_refl _), h.al, h.bl, h.mb, h.sb⟩
theorem RQ.rest (h : RQ w wr k b a n c seen acc m) {b2 : List UInt8} {a2 : Option Addr} {n2 c2 : Nat} (hb : BS wr a2 n2 c2 b2) (hl : b2.length ≤ b.length) : RQ w wr k b2 a2 n2 c2 seen acc m :=
  ⟨h.z, h.l, h.s, h.bel, hb, h.ti, h.al, by have := h.bl; omega, by have := h.mb; omega, h.sb⟩
theorem RQ.put (h : RQ w wr k b a n c seen acc m) (hg : wr.grownBy w' (some (k + 1 + 1))) {id m' : Nat} (hs : SB w' (k + 1 + 1) m' (id :: seen)) {b2 : List UInt8} {a2 : Option Addr} {n2 c2 : Nat} (hb : BS w' a2 n2 c2 b2) (hl : b2.length < b.length) (hm : m' = m + 1) (hid : id < 4611686018427387904) (hk : k + 1 + 1 ≠ 0) : RQ w w' k b2 a2 n2 c2 (id :: seen) acc m' :=
  ⟨h.z.keep (hg.block _ h.z.lt (fun he => by injection he with he; omega)), h.l.keep (hg.block _ h.l.lt (fun he => by injection he with he; omega)), hs, h.bel.grown hg (by have := h.kl; omega) (fun j hj => by cases hj; omega), hb,
   fun i hi => (World.cell?_of_block (w := wr) (a := ⟨0, i, none⟩) (hg.block _ h.ti.lt (fun he => by injection he with he; exact hk he.symm))).trans (h.ti i hi), h.al, by have := h.bl; omega, by have := h.mb; omega, fun j hj => by rcases List.mem_cons.1 hj with rfl | hj; exact hid; exact h.sb j hj⟩
/-- a number is stored -/
theorem R6.set {w : World} {g : Nat} {t : TypeId} {l : List Nat} (h : R6 w g t l) (i v : Nat) : R6 (w.setCell ⟨g, i, none⟩ (.int .u64 (v : Int))) g t (l.set i v) := by
  unfold R6 at h ⊢
  simp [World.setCell, Array.getElem?_modify, h, U6, List.map_set]
theorem RQ.num (h : RQ w wr k b a n c seen acc m) (i v : Nat) (hk : k + 1 ≠ 0) (hb : ∀ ad, a = some ad → ad.block ≠ k + 1) : RQ w (wr.setCell ⟨k + 1, i, none⟩ (.int .u64 (v : Int))) k b a n c seen (acc.set i v) m := by
  have hg := grownBy_setCell wr ⟨k + 1, i, none⟩ (.int .u64 (v : Int))
  exact ⟨h.z.keep (hg.block _ h.z.lt (fun he => by injection he with he; have he : k = k + 1 := he; omega)), h.l.set i v, h.s.kept hg (fun he => by injection he with he; have he : k + 1 + 1 = k + 1 := he; omega), h.bel.grown hg (by have := h.kl; omega) (fun j hj => by cases hj; show k ≤ k + 1; omega), RS.setOther h.bs (fun y hy => hb y hy) _,
   fun i hi => (World.cell?_of_block (w := wr) (a := ⟨0, i, none⟩) (hg.block _ h.ti.lt (fun he => by injection he with he; exact hk he.symm))).trans (h.ti i hi), by rw [List.length_set]; exact h.al, h.bl, h.mb, h.sb⟩
end
theorem RQ.start (w : World) {b : List UInt8} {a : Option Addr} {n c : Nat} (hb : BS w a n c b) (hl : b.length ≤ 1000) (hK : TI w 0) :
    RQ w (((w.alloc (.cells #[.int .u64 0, .int .u64 0, .int .u64 0, .int .u64 0, .int .u64 0, .int .u64 0] 60)).alloc (.cells #[.int .u64 0, .int .u64 0, .int .u64 0, .int .u64 0, .int .u64 0, .int .u64 0] 58)).alloc (.map #[] 0)) w.heap.size b a n c [] z6 0 := by
  have h1 := heap_alloc_new w (.cells #[.int .u64 0, .int .u64 0, .int .u64 0, .int .u64 0, .int .u64 0, .int .u64 0] 60)
  obtain ⟨w1, e1⟩ : ∃ x, w.alloc (.cells #[.int .u64 0, .int .u64 0, .int .u64 0, .int .u64 0, .int .u64 0, .int .u64 0] 60) = x := ⟨_, rfl⟩
  have s1 : w1.heap.size = w.heap.size + 1 := by rw [← e1]; simp
  have b1 : Below w.heap.size w w1 := by rw [← e1]; exact below_alloc w _
  rw [e1] at h1 ⊢
  have h2 := heap_alloc_new w1 (.cells #[.int .u64 0, .int .u64 0, .int .u64 0, .int .u64 0, .int .u64 0, .int .u64 0] 58)
  obtain ⟨w2, e2⟩ : ∃ x, w1.alloc (.cells #[.int .u64 0, .int .u64 0, .int .u64 0, .int .u64 0, .int .u64 0, .int .u64 0] 58) = x := ⟨_, rfl⟩
  have s2 : w2.heap.size = w.heap.size + 1 + 1 := by rw [← e2]; simp [s1]
  have b2 : Below w1.heap.size w1 w2 := by rw [← e2]; exact below_alloc w1 _
  rw [e2, s1] at h2
  rw [e2]
  have h3 := SB.made w2
  have b3 := below_alloc w2 (.map #[] 0)
  rw [s2] at h3
  have bb := btr (btr b1 b2) b3
  exact ⟨((b3.block _ (by omega)).trans (b2.block _ (by omega))).trans h1, (b3.block _ (by omega)).trans h2, h3, bb, RS.below hb bb (Nat.le_refl _), hK.bel bb (Nat.le_refl _), rfl, hl, by omega, fun id h => by cases h⟩
end Go.Proofs.YtkhcpnmbhbhcgaaDoor

/- greet's params are read again (plain). -/
set_option maxRecDepth 100000
set_option linter.unusedVariables false
namespace Go.Proofs.YtkhcpnmbhbhcgaaDoor
open Go.RowKit Go.Joins
theorem prS_fuel : ∀ (f f' : Nat) (b : List UInt8) (seen acc : List Nat), b.length ≤ f → b.length ≤ f' → prS f b seen acc = prS f' b seen acc
  | 0, f', b, seen, acc, h, _ => by
    obtain rfl : b = [] := List.eq_nil_of_length_eq_zero (by omega)
    rw [prS_nil, prS_nil]
  | f + 1, 0, b, seen, acc, _, h => by
    obtain rfl : b = [] := List.eq_nil_of_length_eq_zero (by omega)
    rw [prS_nil, prS_nil]
  | f + 1, f' + 1, b, seen, acc, h, h' => by
    rw [prS, prS]
    by_cases hb : b = []
    · rw [if_pos hb, if_pos hb]
    · rw [if_neg hb, if_neg hb]
      cases hT : takeS b with
      | none => rfl
      | some ir =>
        obtain ⟨id, r⟩ := ir
        dsimp only
        have h1 := takeS_lt hT
        cases hTT : ttS r 1073741824 with
        | none => rfl
        | some tr =>
          obtain ⟨t, r2⟩ := tr
          dsimp only
          have h2 := ttS_lt hTT
          by_cases hs : id ∈ seen
          · rw [if_pos hs, if_pos hs]
          · rw [if_neg hs, if_neg hs]
            cases setP id t 6 acc with
            | none => rfl
            | some a => exact prS_fuel f f' r2 (id :: seen) a (by omega) (by omega)
def MAXN : Nat := 4611686018427387903
theorem setP_one {i : Nat} (hi : i < 6) {t : List UInt8} {m : Nat} (ht : takeS t = some (m, [])) (acc : List Nat) : setP (idsN.getD i 0) t 6 acc = some (acc.set i m) := by
  rcases (show i = 0 ∨ i = 1 ∨ i = 2 ∨ i = 3 ∨ i = 4 ∨ i = 5 by omega) with rfl | rfl | rfl | rfl | rfl | rfl <;> simp [setP, idsN, ht]
theorem pr_step {i : Nat} (hi : i < 6) (v : Nat) (rest : List UInt8) (seen acc : List Nat) (h0 : acc.getD i 0 = 0) (ha : acc.length = 6) (hs : ∀ x ∈ seen, x < idsN.getD i 0) :
    ∃ seen', (∀ f, (pb1 (idsN.getD i 0) v ++ rest).length ≤ f → prS f (pb1 (idsN.getD i 0) v ++ rest) seen acc = prS f rest seen' (acc.set i (min v 4611686018427387903))) ∧ ∀ x ∈ seen', x ≤ idsN.getD i 0 := by
  by_cases hv : v = 0
  · subst hv
    refine ⟨seen, fun f hf => ?_, fun x hx => Nat.le_of_lt (hs x hx)⟩
    have e : acc.set i (min 0 4611686018427387903) = acc := by
      rw [Nat.zero_min]
      apply List.ext_getElem?
      intro j
      rw [List.getElem?_set]
      split
      · next h =>
        subst h
        rw [List.getD_eq_getElem?_getD] at h0
        rw [if_pos (by omega)]
        cases hq : acc[i]? with
        | none => rw [List.getElem?_eq_none_iff] at hq; omega
        | some y => rw [hq] at h0; simp at h0; rw [h0]
      · rfl
    rw [e]
    simp [pb1]
  · obtain ⟨m, hm⟩ : ∃ m, min v 4611686018427387903 = m := ⟨_, rfl⟩
    have hmb : m < 4611686018427387904 := by omega
    have hb := ids_bd hi
    refine ⟨idsN.getD i 0 :: seen, fun f hf => ?_, fun x hx => ?_⟩
    · rw [hm]
      unfold pb1 at hf ⊢
      rw [if_neg hv, hm] at hf ⊢
      obtain ⟨id, hid⟩ : ∃ x, idsN.getD i 0 = x := ⟨_, rfl⟩
      have hset := setP_one hi (t := numX m) (m := m) (by have := takeS_numX m hmb []; rwa [List.append_nil] at this) acc
      rw [hid] at hb hf hs hset ⊢
      rw [List.append_assoc] at hf ⊢
      have hne : numX id ++ (textS (numX m) ++ rest) ≠ [] := by
        intro h
        have := congrArg List.length h
        rw [List.length_append, numX_len] at this
        have := vszX_bd id
        simp at *; omega
      obtain ⟨f', hf', hR⟩ := prS_cons (seen := seen) (acc := acc) hne hf
      rw [hR, takeS_numX id (by omega)]
      dsimp only
      have l1 := vszX_bd m
      rw [ttS_text (numX m) rest 1073741824 (by rw [numX_len]; omega) (by rw [numX_len]; omega)]
      dsimp only
      rw [if_neg (by intro h; have := hs _ h; omega), hset]
      dsimp only
      refine prS_fuel _ _ _ _ _ ?_ ?_
      · rw [List.length_append, List.length_append, numX_len, textS_len, numX_len] at hf
        have h2 := vszX_bd id
        omega
      · rw [List.length_append, List.length_append] at hf; omega
    · rcases List.mem_cons.1 hx with rfl | hx
      · exact Nat.le_refl _
      · exact Nat.le_of_lt (hs x hx)
/-- what was written is read -/
theorem pr_back {l : List Nat} (h6 : l.length = 6) : prS (pbS l 6).length (pbS l 6) [] z6 = some (l.map (min · 4611686018427387903)) := by
  obtain ⟨a, b, c, d, e, f, rfl⟩ := six h6
  have eP : pbS [a, b, c, d, e, f] 6 = pb1 (idsN.getD 0 0) a ++ (pb1 (idsN.getD 1 0) b ++ (pb1 (idsN.getD 2 0) c ++ (pb1 (idsN.getD 3 0) d ++ (pb1 (idsN.getD 4 0) e ++ (pb1 (idsN.getD 5 0) f ++ []))))) := by
    simp [pbS, List.append_assoc]
  obtain ⟨F, hF⟩ : ∃ F, (pbS [a, b, c, d, e, f] 6).length = F := ⟨_, rfl⟩
  rw [hF]
  rw [eP] at hF ⊢
  obtain ⟨s1, q1, t1⟩ := pr_step (i := 0) (by decide) a (pb1 (idsN.getD 1 0) b ++ (pb1 (idsN.getD 2 0) c ++ (pb1 (idsN.getD 3 0) d ++ (pb1 (idsN.getD 4 0) e ++ (pb1 (idsN.getD 5 0) f ++ []))))) [] z6 rfl rfl (fun x hx => by cases hx)
  rw [q1 F (by omega)]
  simp only [List.length_append] at hF
  obtain ⟨s2, q2, t2⟩ := pr_step (i := 1) (by decide) b (pb1 (idsN.getD 2 0) c ++ (pb1 (idsN.getD 3 0) d ++ (pb1 (idsN.getD 4 0) e ++ (pb1 (idsN.getD 5 0) f ++ [])))) s1 (z6.set 0 (min a 4611686018427387903)) (by rfl) (by rfl) (fun x hx => Nat.lt_of_le_of_lt (t1 x hx) (by decide))
  rw [q2 F (by simp only [List.length_append]; omega)]
  obtain ⟨s3, q3, t3⟩ := pr_step (i := 2) (by decide) c (pb1 (idsN.getD 3 0) d ++ (pb1 (idsN.getD 4 0) e ++ (pb1 (idsN.getD 5 0) f ++ []))) s2 ((z6.set 0 (min a 4611686018427387903)).set 1 (min b 4611686018427387903)) (by rfl) (by rfl) (fun x hx => Nat.lt_of_le_of_lt (t2 x hx) (by decide))
  rw [q3 F (by simp only [List.length_append]; omega)]
  obtain ⟨s4, q4, t4⟩ := pr_step (i := 3) (by decide) d (pb1 (idsN.getD 4 0) e ++ (pb1 (idsN.getD 5 0) f ++ [])) s3 (((z6.set 0 (min a 4611686018427387903)).set 1 (min b 4611686018427387903)).set 2 (min c 4611686018427387903)) (by rfl) (by rfl) (fun x hx => Nat.lt_of_le_of_lt (t3 x hx) (by decide))
  rw [q4 F (by simp only [List.length_append]; omega)]
  obtain ⟨s5, q5, t5⟩ := pr_step (i := 4) (by decide) e (pb1 (idsN.getD 5 0) f ++ []) s4 ((((z6.set 0 (min a 4611686018427387903)).set 1 (min b 4611686018427387903)).set 2 (min c 4611686018427387903)).set 3 (min d 4611686018427387903)) (by rfl) (by rfl) (fun x hx => Nat.lt_of_le_of_lt (t4 x hx) (by decide))
  rw [q5 F (by simp only [List.length_append]; omega)]
  obtain ⟨s6, q6, t6⟩ := pr_step (i := 5) (by decide) f [] s5 (((((z6.set 0 (min a 4611686018427387903)).set 1 (min b 4611686018427387903)).set 2 (min c 4611686018427387903)).set 3 (min d 4611686018427387903)).set 4 (min e 4611686018427387903)) (by rfl) (by rfl) (fun x hx => Nat.lt_of_le_of_lt (t5 x hx) (by decide))
  rw [q6 F (by simp only [List.length_append, List.length_nil]; omega), prS_nil]
  rfl
end Go.Proofs.YtkhcpnmbhbhcgaaDoor

/- greet.ReadParams: the walk. -/
set_option maxRecDepth 100000
set_option linter.unusedVariables false
namespace Go.Proofs.YtkhcpnmbhbhcgaaDoor
open Go.RowKit Go.Joins Go.Maps
set_option maxHeartbeats 8000000 in
theorem greadp_any (w : World) {b : List UInt8} {a : Option Addr} {n c : Nat} (hb : BS w a n c b) (hl : b.length ≤ 500) (hK : TI w 0) :
    Calls Tryd.prog 21 #[.slice a n c] w (RPost (prS b.length b [] z6) w) := by
  obtain ⟨R, hR⟩ : ∃ R, prS b.length b [] z6 = R := ⟨_, rfl⟩
  rw [hR]
  have hs := RQ.start w hb (by omega) hK
  obtain ⟨k, hk⟩ : ∃ k, w.heap.size = k := ⟨_, rfl⟩
  have hgk : 0 < k := by rw [← hk]; exact hK.lt
  obtain ⟨W1, hW1⟩ : ∃ x, ((w.alloc (.cells #[.int .u64 0, .int .u64 0, .int .u64 0, .int .u64 0, .int .u64 0, .int .u64 0] 60)).alloc (.cells #[.int .u64 0, .int .u64 0, .int .u64 0, .int .u64 0, .int .u64 0, .int .u64 0] 58)).alloc (.map #[] 0) = x := ⟨_, rfl⟩
  rw [hW1, hk] at hs
  have HS := Lib.hid (show ∃ (b : List UInt8) (f : Nat) (seen acc : List Nat) (m : Nat), RQ w W1 k b a n c seen acc m ∧ b.length ≤ f ∧ prS f b seen acc = R from ⟨b, b.length, [], z6, 0, hs, Nat.le_refl _, hR⟩)
  have Hk := Lib.hid hk
  clear hb hl hK hR hs
  have hmm := @run_makeMap Tryd.prog
  go_enter Tryd.func21, Tryd.ntmps21
  go_upto_region 3 with (fail)
  clear hW1 hk hmm
  go_loopw [0] (fun s0 wr => ∃ (a : Option Addr) (n c : Nat) (b : List UInt8) (f : Nat) (seen acc : List Nat) (m : Nat), s0 = .slice a n c ∧ RQ w wr k b a n c seen acc m ∧ b.length ≤ f ∧ prS f b seen acc = R) (fun s0 _ => match s0 with | .slice _ n _ => n | _ => 0)
  case atStart =>
    obtain ⟨b, f, seen, acc, m, h1, h2, h3⟩ := HS.out
    exact ⟨a, n, c, b, f, seen, acc, m, rfl, h1, h2, h3⟩
  case round =>
    clear HS
    obtain ⟨a, n, c, b, f, seen, acc, m, rfl, hQ, hf, hR⟩ := hrel
    have hbl := BS.len hQ.bs
    have HQ := Lib.hid hQ
    by_cases hn0 : n = 0
    · subst hn0
      obtain rfl : b = [] := List.eq_nil_of_length_eq_zero hbl
      rw [prS_nil] at hR
      have HR := Lib.hid hR
      have Hrg := Lib.hid hQ.l.rng
      have hi6 : (Tryd.prog.info? 58).map (·.size) = some (U6 acc).length := by rw [U6_len, hQ.al]; exact iSix
      have Hi6 := Lib.hid hi6
      have HU := Lib.hid (unlist_any wr hQ.al)
      clear hQ hf hR hbl hi6
      go_wp2_with (first
        | (refine wpList_load_mid rfl _ _ rfl _ _ rfl _ _ Hrg.out Tryd.underlying58 rfl Hi6.out ?_)
        | (go_at_call 37; refine HU.out.mono ?_; rintro x w2 ⟨rfl, B2⟩; have hq2 := HQ.out.next B2; have hz2 := hq2.z; have hL2 : (U6 acc).length = 6 := (by rw [U6_len]; exact HQ.out.al))
        | (refine L_storeRow (old := [.int .u64 0, .int .u64 0, .int .u64 0, .int .u64 0, .int .u64 0, .int .u64 0]) rfl 60 _ _ rfl rfl rfl hz2 iParams rfl hL2 (U6_one acc) ?_; intro wz hz hg))
      refine bodyPost_ret_by (results_row1s rfl _ _ _ _ _ _ rfl hz Tryd.underlying60 rfl (by rw [List.size_toArray, hL2]; exact iParams)) rfl ?_
      rw [← HR.out]
      exact ⟨⟨HQ.out.al, rfl⟩, by rw [Hk.out]; exact hq2.bel.grown hg (by have := hq2.kl; have := hq2.bel.size; omega) (fun j hj => by cases hj; exact Nat.le_refl _)⟩
    · have hbne : b ≠ [] := by intro h; rw [h] at hbl; exact hn0 hbl.symm
      obtain ⟨f', hf', hR2⟩ := prS_cons (seen := seen) (acc := acc) hbne hf
      rw [hR] at hR2
      have hgt : 0 < (n : Int) := by omega
      have hbk := hQ.bl
      have ht := takep_any wr b hQ.bs (by omega)
      have Hf := Lib.hid (show b.length ≤ f' + 1 ∧ b.length = n by omega)
      clear hQ hf hR hf'
      cases hT : takeS b with
      | none =>
        rw [hT] at hR2
        have HR2 := Lib.hid hR2
        have ht2 : Calls Tryd.prog 35 #[.slice a n c] wr fun e w' => e = .returned (.tuple #[.int .u64 0, .slice none 0 0, .int .i64 2]) ∧ Below wr.heap.size wr w' := ht.mono fun e w' h => by unfold TakePost at h; rw [hT] at h; exact h
        have HT := Lib.hid ht2
        have HTT := Lib.hid (fun w' => vttext_any (a := none) (n := 0) (c := 0) (p := []) w' (RS_nil w' 1) (by omega) 1073741824 (by omega))
        clear ht ht2 hR2 hT hbl hbne hbk
        go_upto_region 5 with (go_at_call 35; refine HT.out.mono ?_; rintro x w2 ⟨rfl, B2⟩)
        go_upto_region 6 with (go_at_call 36; refine (HTT.out w2).mono ?_; rintro x w3 ⟨kk, hkk, rfl, B3⟩)
        have hq3 := (HQ.out.next B2).next B3
        clear HT HTT B2 B3
        have HZe := Lib.hid hq3.z
        have HBe := Lib.hid hq3.bel
        have HRe := Lib.hid HR2.out
        go_wp2_with (refine L_storeRow (old := [.int .u64 0, .int .u64 0, .int .u64 0, .int .u64 0, .int .u64 0, .int .u64 0]) rfl 60 _ _ rfl rfl rfl HZe.out iParams rfl rfl (U6_one z6) ?_; intro wz hz hg)
        refine bodyPost_ret_by (results_row1s rfl _ _ _ _ _ _ rfl hz Tryd.underlying60 rfl iParams) rfl ?_
        rw [HRe.out]
        exact ⟨rfl, by rw [Hk.out]; exact HBe.out.grown hg (by have := hq3.kl; omega) (fun j hj => by cases hj; exact Nat.le_refl _)⟩
      | some ir =>
        obtain ⟨id, r⟩ := ir
        rw [hT] at hR2
        dsimp only at hR2
        have hidb := takeS_bd hT
        have hrl := takeS_lt hT
        have ht2 : Calls Tryd.prog 35 #[.slice a n c] wr fun e w' => ∃ a' c', e = .returned (.tuple #[.int .u64 (id : Int), .slice a' r.length c', .int .i64 0]) ∧ OW w' wr.heap.size 5 1 a' r.length c' (r.map B) ∧ Below wr.heap.size wr w' := ht.mono fun e w' h => by unfold TakePost at h; rw [hT] at h; exact h
        obtain ⟨nr, hnr⟩ : ∃ x, r.length = x := ⟨_, rfl⟩
        rw [hnr] at ht2 hrl
        have HT := Lib.hid ht2
        have Hid := Lib.hid (And.intro hidb (And.intro hrl hnr))
        have hnr5 : nr ≤ 1000 := by omega
        have HR2 := Lib.hid hR2
        clear ht ht2 hR2 hT hbl hbne hbk hidb hrl hnr
        go_upto_region 5 with (go_at_call 35; refine HT.out.mono ?_; rintro x w2 ⟨a2, c2, rfl, o2, B2⟩)
        have hq2 := HQ.out.next B2
        have htt := vttext_any w2 (o2.rs : BS w2 a2 nr c2 r) (by omega) 1073741824 (by omega)
        have HQ2 := Lib.hid hq2
        clear HT hq2 o2 B2 HQ
        cases hTT : ttS r 1073741824 with
        | none =>
          have hR2 := HR2.out
          rw [hTT] at hR2
          have HR3 := Lib.hid hR2
          have htt2 : Calls Tryd.prog 36 #[.slice a2 nr c2, .int .i64 1073741824] w2 fun e w' => ∃ k : Int, k ≠ 0 ∧ e = .returned (.tuple #[.slice none 0 0, .slice none 0 0, .int .i64 k]) ∧ Below w2.heap.size w2 w' := htt.mono fun e w' h => by unfold TTPost at h; rw [hTT] at h; exact h
          have HTT := Lib.hid htt2
          clear htt htt2 hTT hR2 HR2
          go_upto_region 6 with (go_at_call 36; refine HTT.out.mono ?_; rintro x w3 ⟨kk, hkk, rfl, B3⟩)
          have hq3 := HQ2.out.next B3
          clear HTT B3
          have HZe := Lib.hid hq3.z
          have HBe := Lib.hid hq3.bel
          have HRe := Lib.hid HR3.out
          go_wp2_with (refine L_storeRow (old := [.int .u64 0, .int .u64 0, .int .u64 0, .int .u64 0, .int .u64 0, .int .u64 0]) rfl 60 _ _ rfl rfl rfl HZe.out iParams rfl rfl (U6_one z6) ?_; intro wz hz hg)
          refine bodyPost_ret_by (results_row1s rfl _ _ _ _ _ _ rfl hz Tryd.underlying60 rfl iParams) rfl ?_
          rw [HRe.out]
          exact ⟨rfl, by rw [Hk.out]; exact HBe.out.grown hg (by have := hq3.kl; omega) (fun j hj => by cases hj; exact Nat.le_refl _)⟩
        | some tr =>
          obtain ⟨t, r2⟩ := tr
          have hR2 := HR2.out
          rw [hTT] at hR2
          dsimp only at hR2
          have hlt := ttS_lt hTT
          have htt2 : Calls Tryd.prog 36 #[.slice a2 nr c2, .int .i64 1073741824] w2 fun e w' => ∃ a1 c1 a3 c3, e = .returned (.tuple #[.slice a1 t.length c1, .slice a3 r2.length c3, .int .i64 0]) ∧ OW w' w2.heap.size 5 1 a1 t.length c1 (t.map B) ∧ OW w' w2.heap.size 5 1 a3 r2.length c3 (r2.map B) ∧ Below w2.heap.size w2 w' := htt.mono fun e w' h => by unfold TTPost at h; rw [hTT] at h; exact h
          obtain ⟨nt, hnt⟩ : ∃ x, t.length = x := ⟨_, rfl⟩
          obtain ⟨n2, hn2⟩ : ∃ x, r2.length = x := ⟨_, rfl⟩
          have hlt2 : n2 < n ∧ nt ≤ 1000 := by have h1 := BS.len HQ2.out.bs; have h2 := Hid.out.2; omega
          rw [hnt, hn2] at htt2
          have HTT := Lib.hid htt2
          have HN2 := Lib.hid (And.intro hlt2 (And.intro hnt hn2))
          have HR3 := Lib.hid hR2
          clear htt htt2 hTT hR2 HR2 hlt hlt2 hnt hn2
          go_upto_region 6 with (go_at_call 36; refine HTT.out.mono ?_; rintro x w3 ⟨a4, c4, a5, c5, rfl, o4, o5, B3⟩)
          have hq3 := HQ2.out.next B3
          have hlk := hq3.s.look id (by have := Hid.out.1; omega)
          have hbt : ∀ ad, a4 = some ad → k + 1 < ad.block := fun ad ha => by have h1 := (o4.base_le ha).1; have h2 := HQ2.out.kl; omega
          have hbr : ∀ ad, a5 = some ad → k + 1 + 1 < ad.block := fun ad ha => by have h1 := (o5.base_le ha).1; have h2 := HQ2.out.kl; omega
          have hbt2 : ∀ ad, a4 = some ad → k + 1 + 1 < ad.block := fun ad ha => by have h1 := (o4.base_le ha).1; have h2 := HQ2.out.kl; omega
          obtain ⟨bs, hbs⟩ : ∃ x, decide (id ∈ seen) = x := ⟨_, rfl⟩
          rw [hbs] at hlk
          have HBS := Lib.hid hbs
          have HO4 := Lib.hid (show BS w3 a4 nt c4 t from o4.rs)
          have HO5 := Lib.hid (show BS w3 a5 n2 c5 r2 from o5.rs)
          have Hbt := Lib.hid (And.intro hbt2 hbr)
          clear HTT o4 o5 B3 hbs hbt hbr hbt2 HQ2
          cases bs with
          | true =>
            have hin : id ∈ seen := by have := HBS.out; simpa using this
            have hR2 := HR3.out
            rw [if_pos hin] at hR2
            clear hin HO4 HO5 Hbt HBS
            have HZe := Lib.hid hq3.z
            have HBe := Lib.hid hq3.bel
            have HRe := Lib.hid hR2
            go_wp2_with (refine L_storeRow (old := [.int .u64 0, .int .u64 0, .int .u64 0, .int .u64 0, .int .u64 0, .int .u64 0]) rfl 60 _ _ rfl rfl rfl HZe.out iParams rfl rfl (U6_one z6) ?_; intro wz hz hg)
            refine bodyPost_ret_by (results_row1s rfl _ _ _ _ _ _ rfl hz Tryd.underlying60 rfl iParams) rfl ?_
            rw [HRe.out]
            exact ⟨rfl, by rw [Hk.out]; exact HBe.out.grown hg (by have := hq3.kl; omega) (fun j hj => by cases hj; exact Nat.le_refl _)⟩
          | false =>
            have hnin : ¬ id ∈ seen := by have := HBS.out; simpa using this
            have hR2 := HR3.out
            rw [if_neg hnin] at hR2
            have HR4 := Lib.hid hR2
            have HQ3 := Lib.hid hq3
            have hmb : m < maxLen := by have := hq3.mb; unfold maxLen; omega
            have hidw : id < 18446744073709551616 := by have := Hid.out.1; omega
            clear hR2 HR3 hnin hq3 HBS
            go_upto_region 9 with (refine L_mapput rfl _ _ _ rfl HQ3.out.s hmb id hidw rfl rfl rfl ?_; intro w4 hs4 hg4)
            have bt4 : BS w4 a4 nt c4 t := RS.grown HO4.out hg4 (fun ad ha he => by injection he with he; have := Hbt.out.1 ad ha; omega)
            have br4 : BS w4 a5 n2 c5 r2 := RS.grown HO5.out hg4 (fun ad ha he => by injection he with he; have := Hbt.out.2 ad ha; omega)
            have hq4 := HQ3.out.put hg4 hs4 br4 (by have h1 := BS.len HQ3.out.bs; have h2 := HN2.out; omega) rfl Hid.out.1 (by omega)
            have HST := Lib.hid (show RQ w w4 k r2 a5 n2 c5 (id :: seen) acc (m + 1) ∧ BS w4 a4 nt c4 t from ⟨hq4, bt4⟩)
            clear bt4 br4 hq4 hs4 hg4 HO4 HO5 hmb hidw HQ3 hlk
            go_upto_region 10 with (fail)
            go_loopw [46] (fun s46 wj => ∃ (i : Nat) (ai : List Nat), i ≤ 6 ∧ s46 = .int .i64 (i : Int) ∧ setP id t i acc = some ai ∧ RQ w wj k r2 a5 n2 c5 (id :: seen) ai (m + 1) ∧ BS wj a4 nt c4 t) (fun s46 _ => match s46 with | .int _ x => (6 - x).toNat | _ => 0)
            case atStart => exact ⟨0, acc, by omega, rfl, rfl, HST.out.1, HST.out.2⟩
            case round =>
              clear HST
              obtain ⟨i, ai, hi, rfl, hset, hq, hbt⟩ := hrel
              have HQi := Lib.hid hq
              have HBt := Lib.hid hbt
              have Hset := Lib.hid hset
              by_cases h6 : i = 6
              · subst h6
                clear hq hbt hset
                go_wp2
                have h4 := HR4.out
                rw [Hset.out] at h4
                refine ⟨⟨a5, n2, c5, r2, f', id :: seen, ai, m + 1, rfl, HQi.out, ?_, h4.symm⟩, HN2.out.1.1⟩
                have h1 := HN2.out; have h2 := Hid.out; have h3 := Hf.out
                omega
              · have hlt : i < 6 := by omega
                obtain ⟨idi, hidi⟩ : ∃ v, idsN.getD i 0 = v := ⟨_, rfl⟩
                have hld := hq.ti i hlt
                rw [hidi] at hld
                have hwr9 : IntKind.i64.wrap ((i : Int) + 1) = (i : Int) + 1 := IntWalk.i64_in _ (by omega)
                have Hidi := Lib.hid hidi
                clear hq hbt hset hidi
                by_cases hne : idi = id
                · have hnei : (idi : Int) = (id : Int) := by omega
                  have Hne := Lib.hid hne
                  have htk := takep_any wr t HBt.out (by have := HN2.out; omega)
                  have hst : setP id t (i + 1) acc = match takeS t with | some (n, []) => some (ai.set i n) | _ => none := by rw [setP, Hset.out]; dsimp only; rw [if_pos (by rw [Hidi.out]; exact hne)]; first | done | (cases takeS t with | none => rfl | some p => (obtain ⟨v, l⟩ := p; cases l <;> rfl))
                  clear hne
                  cases hT : takeS t with
                  | none =>
                    rw [hT] at hst
                    have h6n : setP id t 6 acc = none := by have := setP_none (i := i + 1) hst (6 - (i + 1)); rwa [show i + 1 + (6 - (i + 1)) = 6 by omega] at this
                    have h4 := HR4.out
                    rw [h6n] at h4
                    have ht2 : Calls Tryd.prog 35 #[.slice a4 nt c4] wr fun e w' => e = .returned (.tuple #[.int .u64 0, .slice none 0 0, .int .i64 2]) ∧ Below wr.heap.size wr w' := htk.mono fun e w' h => by unfold TakePost at h; rw [hT] at h; exact h
                    have HT := Lib.hid ht2
                    have HR5 := Lib.hid h4
                    clear htk ht2 hst h6n h4 hT
                    go_upto_region 14 with (go_at_call 35; refine HT.out.mono ?_; rintro x w5 ⟨rfl, B5⟩)
                    have hq3 := HQi.out.next B5
                    clear HT B5
                    have HZe := Lib.hid hq3.z
                    have HBe := Lib.hid hq3.bel
                    have HRe := Lib.hid HR5.out
                    go_wp2_with (refine L_storeRow (old := [.int .u64 0, .int .u64 0, .int .u64 0, .int .u64 0, .int .u64 0, .int .u64 0]) rfl 60 _ _ rfl rfl rfl HZe.out iParams rfl rfl (U6_one z6) ?_; intro wz hz hg)
                    refine bodyPost_ret_by (results_row1s rfl _ _ _ _ _ _ rfl hz Tryd.underlying60 rfl iParams) rfl ?_
                    rw [HRe.out]
                    exact ⟨rfl, by rw [Hk.out]; exact HBe.out.grown hg (by have := hq3.kl; omega) (fun j hj => by cases hj; exact Nat.le_refl _)⟩
                  | some vl =>
                    obtain ⟨v, left⟩ := vl
                    rw [hT] at hst
                    have ht2 : Calls Tryd.prog 35 #[.slice a4 nt c4] wr fun e w' => ∃ a' c', e = .returned (.tuple #[.int .u64 (v : Int), .slice a' left.length c', .int .i64 0]) ∧ OW w' wr.heap.size 5 1 a' left.length c' (left.map B) ∧ Below wr.heap.size wr w' := htk.mono fun e w' h => by unfold TakePost at h; rw [hT] at h; exact h
                    have HT := Lib.hid ht2
                    clear htk ht2 hT
                    cases left with
                    | nil =>
                      have Hst := Lib.hid (show setP id t (i + 1) acc = some (ai.set i v) from hst)
                      clear hst
                      go_upto_region 14 with (go_at_call 35; refine HT.out.mono ?_; rintro x w5 ⟨a6, c6, rfl, o6, B5⟩)
                      have hq5 := HQi.out.next B5
                      have ql := hq5.l.at_ i (by rw [hq5.al]; exact hlt)
                      have qf := hq5.l.fr i
                      have HQ5 := Lib.hid hq5
                      have HB5 := Lib.hid (RS.below HBt.out B5 (Nat.le_refl _))
                      clear hq5 o6 B5 HT
                      go_wp2
                      exact ⟨⟨i + 1, ai.set i v, by omega, by simp, Hst.out, HQ5.out.num i v (by omega) (fun ad ha => by have := Hbt.out.2 ad ha; omega), RS.setOther HB5.out (fun y hy => by have := Hbt.out.1 y hy; show y.block ≠ k + 1; omega) _⟩, by simp; omega⟩
                    | cons x0 xs =>
                      have hst : setP id t (i + 1) acc = none := hst
                      have h6n : setP id t 6 acc = none := by have := setP_none (i := i + 1) hst (6 - (i + 1)); rwa [show i + 1 + (6 - (i + 1)) = 6 by omega] at this
                      have h4 := HR4.out
                      rw [h6n] at h4
                      obtain ⟨nl, hnl⟩ : ∃ x, (x0 :: xs).length = x := ⟨_, rfl⟩
                      rw [hnl] at HT
                      have hnl0 : 0 < (nl : Int) := by rw [List.length_cons] at hnl; omega
                      have HR5 := Lib.hid h4
                      clear hst h6n h4 hnl
                      go_upto_region 14 with (go_at_call 35; refine HT.out.mono ?_; rintro x w5 ⟨a6, c6, rfl, o6, B5⟩)
                      have hq3 := HQi.out.next B5
                      clear HT B5 o6
                      have HZe := Lib.hid hq3.z
                      have HBe := Lib.hid hq3.bel
                      have HRe := Lib.hid HR5.out
                      go_wp2_with (refine L_storeRow (old := [.int .u64 0, .int .u64 0, .int .u64 0, .int .u64 0, .int .u64 0, .int .u64 0]) rfl 60 _ _ rfl rfl rfl HZe.out iParams rfl rfl (U6_one z6) ?_; intro wz hz hg)
                      refine bodyPost_ret_by (results_row1s rfl _ _ _ _ _ _ rfl hz Tryd.underlying60 rfl iParams) rfl ?_
                      rw [HRe.out]
                      exact ⟨rfl, by rw [Hk.out]; exact HBe.out.grown hg (by have := hq3.kl; omega) (fun j hj => by cases hj; exact Nat.le_refl _)⟩
                · have hnei : ¬ ((idi : Int) = (id : Int)) := by omega
                  have hst : setP id t (i + 1) acc = some ai := by rw [setP, Hset.out]; dsimp only; rw [if_neg (by rw [Hidi.out]; exact hne)]
                  have Hst := Lib.hid hst
                  clear hst hne
                  go_wp2
                  exact ⟨⟨i + 1, ai, by omega, by simp, Hst.out, HQi.out, HBt.out⟩, by simp; omega⟩
end Go.Proofs.YtkhcpnmbhbhcgaaDoor

/- the reference's ReadParams: the walk. -/
set_option maxRecDepth 100000
set_option linter.unusedVariables false
namespace Go.Proofs.YtkhcpnmbhbhcgaaDoor
open Go.RowKit Go.Joins Go.Maps
theorem t64 : STy Tryd.prog 90 37 (.int .u64 0) 1 8 := ⟨Tryd.underlying90, by kernel_rfl, rfl, by decide⟩
/-- what the loop holds: the result's row, the numbers, what was seen, the rest -/
structure RR (w wr : World) (k : Nat) (b : List UInt8) (a : Option Addr) (n c : Nat) (ss : List Nat) (sa : Option Addr) (sn sc : Nat) (acc : List Nat) : Prop where
  z : R6 wr k 58 z6
  l : R6 wr (k + 1) 58 acc
  s : OW wr (k + 1 + 1) 37 1 sa sn sc (U6 ss)
  bel : Below k w wr
  kl : k + 1 < wr.heap.size
  bs : BS wr a n c b
  ti : TI wr 1
  al : acc.length = 6
  bl : b.length ≤ 1000
  mb : sn + b.length ≤ 1000
section
variable {w wr w' : World} {k : Nat} {b : List UInt8} {a : Option Addr} {n c : Nat} {ss acc : List Nat} {sa : Option Addr} {sn sc : Nat}
theorem RR.sl (h : RR w wr k b a n c ss sa sn sc acc) : ss.length = sn := by have := h.s.len; rw [U6_len] at this; simpa using this
theorem RR.next (h : RR w wr k b a n c ss sa sn sc acc) (hb : Below wr.heap.size wr w') : RR w w' k b a n c ss sa sn sc acc :=
  ⟨h.z.bel hb, h.l.bel hb, h.s.below hb (Nat.le_refl _), h.bel.trans (hb.mono (by have := h.kl; omega)), Nat.lt_of_lt_of_le h.kl hb.size, RS.below h.bs hb (Nat.le_refl _), h.ti.bel hb (Nat.le_refl _), h.al, h.bl, h.mb⟩
theorem RR.app (h : RR w wr k b a n c ss sa sn sc acc) (hg : wr.grownBy w' (sa.map (·.block))) {id : Nat} {sa' : Option Addr} {sc' : Nat} (hs : OW w' (k + 1 + 1) 37 1 sa' (sn + 1) sc' (U6 ss ++ [.int .u64 (id : Int)])) {b2 : List UInt8} {a2 : Option Addr} {n2 c2 : Nat} (hb : BS w' a2 n2 c2 b2) (hl : b2.length < b.length) (hk : 1 < k) : RR w w' k b2 a2 n2 c2 (ss ++ [id]) sa' (sn + 1) sc' acc := by
  have hne : ∀ q, q < k + 1 + 1 → some q ≠ sa.map (·.block) := fun q hq he => by
    cases hA : sa with
    | none => rw [hA] at he; cases he
    | some ad => rw [hA] at he; injection he with he; have he : q = ad.block := he; have := (h.s.base_le hA).1; omega
  exact ⟨h.z.keep (hg.block _ h.z.lt (hne _ (by omega))), h.l.keep (hg.block _ h.l.lt (hne _ (by omega))), by rw [show U6 (ss ++ [id]) = U6 ss ++ [.int .u64 (id : Int)] by simp [U6]]; exact hs, h.bel.grown hg (by have := h.kl; omega) (fun j hj => by
    cases hA : sa with
    | none => rw [hA] at hj; cases hj
    | some ad => rw [hA] at hj; injection hj with hj; have hj : ad.block = j := hj; have := (h.s.base_le hA).1; omega), Nat.lt_of_lt_of_le h.kl hg.size, hb,
   fun i hi => (World.cell?_of_block (w := wr) (a := ⟨1, i, none⟩) (hg.block _ h.ti.lt (hne _ (by show 1 < k + 1 + 1; omega)))).trans (h.ti i hi), h.al, by have := h.bl; omega, by have := h.mb; omega⟩
theorem RR.num (h : RR w wr k b a n c ss sa sn sc acc) (i v : Nat) (hk : k + 1 ≠ 1) (hb : ∀ ad, a = some ad → ad.block ≠ k + 1) : RR w (wr.setCell ⟨k + 1, i, none⟩ (.int .u64 (v : Int))) k b a n c ss sa sn sc (acc.set i v) := by
  have hg := grownBy_setCell wr ⟨k + 1, i, none⟩ (.int .u64 (v : Int))
  exact ⟨h.z.keep (hg.block _ h.z.lt (fun he => by injection he with he; have he : k = k + 1 := he; omega)), h.l.set i v, OW.setOther h.s (fun x hx he => by have := (h.s.base_le hx).1; have he : x.block = k + 1 := he; omega) _, h.bel.grown hg (by have := h.kl; omega) (fun j hj => by cases hj; show k ≤ k + 1; omega), Nat.lt_of_lt_of_le h.kl hg.size, RS.setOther h.bs (fun y hy => hb y hy) _,
   fun i hi => (World.cell?_of_block (w := wr) (a := ⟨1, i, none⟩) (hg.block _ h.ti.lt (fun he => by injection he with he; exact hk he.symm))).trans (h.ti i hi), by rw [List.length_set]; exact h.al, h.bl, h.mb⟩
theorem RR.seen (h : RR w wr k b a n c ss sa sn sc acc) : ∃ g, 0 < sn → sa = some ⟨g, 0, none⟩ := by
  rcases h.s.shape with ⟨_, h0, _⟩ | ⟨g, cur, h1, _⟩
  · exact ⟨0, fun h2 => by omega⟩
  · exact ⟨g, fun _ => h1⟩
theorem RR.cell {g j v : Nat} (h : RR w wr k b a n c ss (some ⟨g, 0, none⟩) sn sc acc) (hv : ss[j]? = some v) : wr.cell? ⟨g, j, none⟩ = some (.int .u64 (v : Int)) :=
  h.s.cell j _ (by simp [U6, hv])
end
theorem RR.start (w : World) {b : List UInt8} {a : Option Addr} {n c : Nat} (hb : BS w a n c b) (hl : b.length ≤ 1000) (hK : TI w 1) :
    RR w ((w.alloc (.cells #[.int .u64 0, .int .u64 0, .int .u64 0, .int .u64 0, .int .u64 0, .int .u64 0] 58)).alloc (.cells #[.int .u64 0, .int .u64 0, .int .u64 0, .int .u64 0, .int .u64 0, .int .u64 0] 58)) w.heap.size b a n c [] none 0 0 z6 := by
  have bb : Below w.heap.size w ((w.alloc (.cells #[.int .u64 0, .int .u64 0, .int .u64 0, .int .u64 0, .int .u64 0, .int .u64 0] 58)).alloc (.cells #[.int .u64 0, .int .u64 0, .int .u64 0, .int .u64 0, .int .u64 0, .int .u64 0] 58)) := (below_alloc w _).alloc (by simp) _
  exact ⟨heap_alloc2a w _ _, heap_alloc2b w _ _, OW_nil _ _ _ 1, bb, by simp, RS.below hb bb (Nat.le_refl _), hK.bel bb (Nat.le_refl _), rfl, hl, by omega⟩
set_option maxHeartbeats 8000000 in
theorem rreadp_any (w : World) {b : List UInt8} {a : Option Addr} {n c : Nat} (hb : BS w a n c b) (hl : b.length ≤ 500) (hK : TI w 1) :
    Calls Tryd.prog 22 #[.slice a n c] w (RPost (prS b.length b [] z6) w) := by
  obtain ⟨R, hR⟩ : ∃ R, prS b.length b [] z6 = R := ⟨_, rfl⟩
  rw [hR]
  have hs := RR.start w hb (by omega) hK
  obtain ⟨k, hk⟩ : ∃ k, w.heap.size = k := ⟨_, rfl⟩
  have hgk : 1 < k := by rw [← hk]; exact hK.lt
  obtain ⟨W1, hW1⟩ : ∃ x, (w.alloc (.cells #[.int .u64 0, .int .u64 0, .int .u64 0, .int .u64 0, .int .u64 0, .int .u64 0] 58)).alloc (.cells #[.int .u64 0, .int .u64 0, .int .u64 0, .int .u64 0, .int .u64 0, .int .u64 0] 58) = x := ⟨_, rfl⟩
  rw [hW1, hk] at hs
  have HS := Lib.hid (show ∃ (b : List UInt8) (f : Nat) (ss seen acc : List Nat), RR w W1 k b a n c ss none 0 0 acc ∧ (∀ x, x ∈ ss ↔ x ∈ seen) ∧ b.length ≤ f ∧ prS f b seen acc = R from ⟨b, b.length, [], [], z6, hs, fun _ => Iff.rfl, Nat.le_refl _, hR⟩)
  have Hk := Lib.hid hk
  clear hb hl hK hR hs
  go_enter Tryd.func22, Tryd.ntmps22
  go_upto_region 3 with (fail)
  clear hW1 hk
  go_loopw [0, 5] (fun s0 s5 wr => ∃ (a : Option Addr) (n c : Nat) (b : List UInt8) (f : Nat) (ss seen acc : List Nat) (sa : Option Addr) (sn sc : Nat), s0 = .slice a n c ∧ s5 = .slice sa sn sc ∧ RR w wr k b a n c ss sa sn sc acc ∧ (∀ x, x ∈ ss ↔ x ∈ seen) ∧ b.length ≤ f ∧ prS f b seen acc = R) (fun s0 _ _ => match s0 with | .slice _ n _ => n | _ => 0)
  case atStart =>
    obtain ⟨b, f, ss, seen, acc, h1, h4, h2, h3⟩ := HS.out
    exact ⟨a, n, c, b, f, ss, seen, acc, none, 0, 0, rfl, rfl, h1, h4, h2, h3⟩
  case round =>
    clear HS
    obtain ⟨a, n, c, b, f, ss, seen, acc, sa, sn, sc, rfl, rfl, hQ, hmem, hf, hR⟩ := hrel
    have hbl := BS.len hQ.bs
    have HQ := Lib.hid hQ
    have Hmem := Lib.hid hmem
    clear hmem
    by_cases hn0 : n = 0
    · subst hn0
      obtain rfl : b = [] := List.eq_nil_of_length_eq_zero hbl
      rw [prS_nil] at hR
      have HR := Lib.hid hR
      have Hrg := Lib.hid hQ.l.rng
      have hz2 := hQ.z
      have hL2 : (U6 acc).length = 6 := by rw [U6_len]; exact hQ.al
      have hi6 : (Tryd.prog.info? 58).map (·.size) = some (U6 acc).length := by rw [hL2]; exact iSix
      have Hi6 := Lib.hid hi6
      have HZ2 := Lib.hid hz2
      have HL2 := Lib.hid hL2
      clear hQ hf hR hbl hi6 hz2 hL2
      go_wp2_with (first
        | (refine wpList_load_mid rfl _ _ rfl _ _ rfl _ _ Hrg.out Tryd.underlying58 rfl Hi6.out ?_)
        | (refine L_storeRow (old := [.int .u64 0, .int .u64 0, .int .u64 0, .int .u64 0, .int .u64 0, .int .u64 0]) rfl 58 _ _ rfl rfl rfl HZ2.out iSix rfl HL2.out (U6_one acc) ?_; intro wz hz hg))
      refine bodyPost_ret_by (results_row1s rfl _ _ _ _ _ _ rfl hz Tryd.underlying58 rfl (by rw [List.size_toArray, HL2.out]; exact iSix)) rfl ?_
      rw [← HR.out]
      exact ⟨⟨HQ.out.al, rfl⟩, by rw [Hk.out]; exact HQ.out.bel.grown hg (by have := HQ.out.kl; omega) (fun j hj => by cases hj; exact Nat.le_refl _)⟩
    · have hbne : b ≠ [] := by intro h; rw [h] at hbl; exact hn0 hbl.symm
      obtain ⟨f', hf', hR2⟩ := prS_cons (seen := seen) (acc := acc) hbne hf
      rw [hR] at hR2
      have hgt : 0 < (n : Int) := by omega
      have hbk := hQ.bl
      have ht := taker_any wr b hQ.bs (by omega)
      have Hf := Lib.hid (show b.length ≤ f' + 1 ∧ b.length = n by omega)
      clear hQ hf hR hf'
      cases hT : takeS b with
      | none =>
        rw [hT] at hR2
        have HR2 := Lib.hid hR2
        have ht2 : Calls Tryd.prog 38 #[.slice a n c] wr fun e w' => e = .returned (.tuple #[.int .u64 0, .slice none 0 0, .int .i64 2]) ∧ Below wr.heap.size wr w' := ht.mono fun e w' h => by unfold TakePost at h; rw [hT] at h; exact h
        have HT := Lib.hid ht2
        clear ht ht2 hR2 hT hbl hbne hbk
        go_upto_region 6 with (go_at_call 38; refine HT.out.mono ?_; rintro x w2 ⟨rfl, B2⟩)
        have hq3 := HQ.out.next B2
        clear HT B2
        have HZe := Lib.hid hq3.z
        have HBe := Lib.hid hq3.bel
        have HRe := Lib.hid HR2.out
        have hkl9 := hq3.kl
        go_wp2_with (refine L_storeRow (old := [.int .u64 0, .int .u64 0, .int .u64 0, .int .u64 0, .int .u64 0, .int .u64 0]) rfl 58 _ _ rfl rfl rfl HZe.out iSix rfl rfl (U6_one z6) ?_; intro wz hz hg)
        refine bodyPost_ret_by (results_row1s rfl _ _ _ _ _ _ rfl hz Tryd.underlying58 rfl iSix) rfl ?_
        rw [HRe.out]
        exact ⟨rfl, by rw [Hk.out]; exact HBe.out.grown hg (by omega) (fun j hj => by cases hj; exact Nat.le_refl _)⟩
      | some ir =>
        obtain ⟨id, r⟩ := ir
        rw [hT] at hR2
        dsimp only at hR2
        have hidb := takeS_bd hT
        have hrl := takeS_lt hT
        have ht2 : Calls Tryd.prog 38 #[.slice a n c] wr fun e w' => ∃ a' c', e = .returned (.tuple #[.int .u64 (id : Int), .slice a' r.length c', .int .i64 0]) ∧ OW w' wr.heap.size 5 1 a' r.length c' (r.map B) ∧ Below wr.heap.size wr w' := ht.mono fun e w' h => by unfold TakePost at h; rw [hT] at h; exact h
        obtain ⟨nr, hnr⟩ : ∃ x, r.length = x := ⟨_, rfl⟩
        rw [hnr] at ht2 hrl
        have hmost : ttS r 1073741824 = ttS r 1099511627776 := ttS_most (by omega) (by omega)
        rw [hmost] at hR2
        have HT := Lib.hid ht2
        have Hid := Lib.hid (And.intro hidb (And.intro hrl hnr))
        have hnr5 : nr ≤ 1000 := by omega
        have HR2 := Lib.hid hR2
        clear ht ht2 hR2 hT hbl hbne hbk hidb hrl hnr hmost
        go_upto_region 7 with (go_at_call 38; refine HT.out.mono ?_; rintro x w2 ⟨a2, c2, rfl, o2, B2⟩)
        have hq2 := HQ.out.next B2
        have htt := rttext_any w2 (o2.rs : BS w2 a2 nr c2 r) (by omega) 1099511627776 (by omega)
        have HQ2 := Lib.hid hq2
        clear HT hq2 o2 B2 HQ
        cases hTT : ttS r 1099511627776 with
        | none =>
          have hR2 := HR2.out
          rw [hTT] at hR2
          have HR3 := Lib.hid hR2
          have htt2 : Calls Tryd.prog 34 #[.slice a2 nr c2, .int .i64 1099511627776] w2 fun e w' => ∃ k : Int, k ≠ 0 ∧ e = .returned (.tuple #[.slice none 0 0, .slice none 0 0, .int .i64 k]) ∧ Below w2.heap.size w2 w' := htt.mono fun e w' h => by unfold TTPost at h; rw [hTT] at h; exact h
          have HTT := Lib.hid htt2
          clear htt htt2 hTT hR2 HR2
          go_upto_region 8 with (go_at_call 34; refine HTT.out.mono ?_; rintro x w3 ⟨kk, hkk, rfl, B3⟩)
          have hq3 := HQ2.out.next B3
          clear HTT B3
          have HZe := Lib.hid hq3.z
          have HBe := Lib.hid hq3.bel
          have HRe := Lib.hid HR3.out
          have hkl9 := hq3.kl
          go_wp2_with (refine L_storeRow (old := [.int .u64 0, .int .u64 0, .int .u64 0, .int .u64 0, .int .u64 0, .int .u64 0]) rfl 58 _ _ rfl rfl rfl HZe.out iSix rfl rfl (U6_one z6) ?_; intro wz hz hg)
          refine bodyPost_ret_by (results_row1s rfl _ _ _ _ _ _ rfl hz Tryd.underlying58 rfl iSix) rfl ?_
          rw [HRe.out]
          exact ⟨rfl, by rw [Hk.out]; exact HBe.out.grown hg (by omega) (fun j hj => by cases hj; exact Nat.le_refl _)⟩
        | some tr =>
          obtain ⟨t, r2⟩ := tr
          have hR2 := HR2.out
          rw [hTT] at hR2
          dsimp only at hR2
          have hlt := ttS_lt hTT
          have htt2 : Calls Tryd.prog 34 #[.slice a2 nr c2, .int .i64 1099511627776] w2 fun e w' => ∃ a1 c1 a3 c3, e = .returned (.tuple #[.slice a1 t.length c1, .slice a3 r2.length c3, .int .i64 0]) ∧ OW w' w2.heap.size 5 1 a1 t.length c1 (t.map B) ∧ OW w' w2.heap.size 5 1 a3 r2.length c3 (r2.map B) ∧ Below w2.heap.size w2 w' := htt.mono fun e w' h => by unfold TTPost at h; rw [hTT] at h; exact h
          obtain ⟨nt, hnt⟩ : ∃ x, t.length = x := ⟨_, rfl⟩
          obtain ⟨n2, hn2⟩ : ∃ x, r2.length = x := ⟨_, rfl⟩
          have hlt2 : n2 < n ∧ nt ≤ 1000 := by have h1 := BS.len HQ2.out.bs; have h2 := Hid.out.2; omega
          rw [hnt, hn2] at htt2
          have HTT := Lib.hid htt2
          have HN2 := Lib.hid (And.intro hlt2 (And.intro hnt hn2))
          have HR3 := Lib.hid hR2
          clear htt htt2 hTT hR2 HR2 hlt hlt2 hnt hn2
          go_upto_region 8 with (go_at_call 34; refine HTT.out.mono ?_; rintro x w3 ⟨a4, c4, a5, c5, rfl, o4, o5, B3⟩)
          have hq3 := HQ2.out.next B3
          have hbt : ∀ ad, a4 = some ad → k + 1 < ad.block ∧ some ad.block ≠ sa.map (·.block) := fun ad ha => by
            have h1 := (o4.base_le ha).1; have h2 := HQ2.out.kl
            refine ⟨by omega, fun he => ?_⟩
            cases hA : sa with
            | none => rw [hA] at he; cases he
            | some ad2 => rw [hA] at he; injection he with he; have he : ad.block = ad2.block := he; have h3 := (HQ2.out.s.base_le hA).2; omega
          have hbr : ∀ ad, a5 = some ad → k + 1 < ad.block ∧ some ad.block ≠ sa.map (·.block) := fun ad ha => by
            have h1 := (o5.base_le ha).1; have h2 := HQ2.out.kl
            refine ⟨by omega, fun he => ?_⟩
            cases hA : sa with
            | none => rw [hA] at he; cases he
            | some ad2 => rw [hA] at he; injection he with he; have he : ad.block = ad2.block := he; have h3 := (HQ2.out.s.base_le hA).2; omega
          have HO4 := Lib.hid (show BS w3 a4 nt c4 t from o4.rs)
          have HO5 := Lib.hid (show BS w3 a5 n2 c5 r2 from o5.rs)
          have Hbt := Lib.hid (And.intro hbt hbr)
          have HQ3 := Lib.hid hq3
          have hsl := hq3.sl
          have hsn : sn ≤ 1000 := by have := hq3.mb; omega
          obtain ⟨sg, hsg⟩ := hq3.seen
          have Hsl := Lib.hid hsl
          have Hsg := Lib.hid hsg
          clear HTT o4 o5 B3 hbt hbr HQ2 hq3 hsl hsg
          go_upto_region 11 with (fail)
          have HJ := Lib.hid (show ∃ j : Nat, j ≤ sn ∧ Value.int .i64 (0 : Int) = .int .i64 (j : Int) ∧ (∀ q, q < j → ss[q]? ≠ some id) ∧ w3 = w3 from ⟨0, by omega, rfl, fun q hq => by omega, rfl⟩)
          go_loopw [42] (fun s42 wj => ∃ j : Nat, j ≤ sn ∧ s42 = .int .i64 (j : Int) ∧ (∀ q, q < j → ss[q]? ≠ some id) ∧ wj = w3) (fun s42 _ => match s42 with | .int _ x => (sn - x).toNat | _ => 0)
          case atStart => exact HJ.out
          case round =>
            clear HJ
            obtain ⟨j, hj, rfl, hno, rfl⟩ := hrel
            have Hno := Lib.hid hno
            clear hno
            by_cases hjn : j = sn
            · subst hjn
              have hnin : ¬ id ∈ seen := by
                intro hm
                have hm2 := (Hmem.out id).2 hm
                obtain ⟨q, hq⟩ := List.getElem?_of_mem hm2
                have hql := (List.getElem?_eq_some_iff.1 hq).1
                exact Hno.out q (by have := Hsl.out; omega) hq
              have hR2 := HR3.out
              rw [if_neg hnin] at hR2
              have HR4 := Lib.hid hR2
              clear hR2 HR3 hnin Hno
              have hAl := HQ3.out.next (below_alloc wr (.cells #[.int .u64 (id : Int)] 37))
              go_upto_region 18 with (at_builtin; refine L_append t64 hAl.s (OW_made wr (k + 1 + 1) 37 1 #[.int .u64 (id : Int)] 1 (by have := HQ3.out.kl; omega) rfl (by unfold maxLen; omega) (by simp [Value.oneCell'])).rs _ _ rfl rfl rfl rfl (by omega) (by unfold maxLen; omega) (by have := HQ3.out.kl; simp; omega) ?_; intro sa' sc' w4 hs4 hg4)
              have bal := below_alloc wr (.cells #[.int .u64 (id : Int)] 37)
              have bt4 : BS w4 a4 nt c4 t := RS.grown (RS.below HO4.out bal (Nat.le_refl _)) hg4 (fun ad ha => (Hbt.out.1 ad ha).2)
              have br4 : BS w4 a5 n2 c5 r2 := RS.grown (RS.below HO5.out bal (Nat.le_refl _)) hg4 (fun ad ha => (Hbt.out.2 ad ha).2)
              have hq4 := hAl.app hg4 hs4 br4 (by have h1 := BS.len HQ3.out.bs; have h2 := HN2.out; omega) hgk
              have HST := Lib.hid (show RR w w4 k r2 a5 n2 c5 (ss ++ [id]) sa' (j + 1) sc' acc ∧ BS w4 a4 nt c4 t from ⟨hq4, bt4⟩)
              have Hmem2 := Lib.hid (show ∀ x, x ∈ ss ++ [id] ↔ x ∈ id :: seen from fun x => by simp [Hmem.out x, or_comm])
              have hot : w4.rangeAt 1 0 (U6 idsN) := fun q v hv => by
                have hq : q < 6 := by have := (List.getElem?_eq_some_iff.1 hv).1; rw [U6_len] at this; exact this
                rw [Nat.zero_add, hq4.ti q hq]
                rcases (show q = 0 ∨ q = 1 ∨ q = 2 ∨ q = 3 ∨ q = 4 ∨ q = 5 by omega) with rfl | rfl | rfl | rfl | rfl | rfl <;> simpa [U6, idsN] using hv
              have Hot := Lib.hid hot
              clear bt4 br4 hq4 hs4 hg4 HO4 HO5 HQ3 hAl bal hot Hmem Hsg Hsl
              go_upto_region 19 with (refine wpList_load_mid rfl _ _ rfl _ _ rfl _ _ Hot.out Tryd.underlying58 rfl iSix ?_)
              obtain ⟨Z, hZ⟩ : ∃ Z, (U6 idsN).toArray = Z := ⟨_, rfl⟩
              rw [hZ]
              have HZ := Lib.hid hZ
              clear hZ Hot
              go_loopw [57] (fun s57 wj => ∃ (i : Nat) (ai : List Nat), i ≤ 6 ∧ s57 = .int .i64 (i : Int) ∧ setP id t i acc = some ai ∧ RR w wj k r2 a5 n2 c5 (ss ++ [id]) sa' (j + 1) sc' ai ∧ BS wj a4 nt c4 t) (fun s57 _ => match s57 with | .int _ x => (6 - x).toNat | _ => 0)
              case atStart => exact ⟨0, acc, by omega, rfl, rfl, HST.out.1, HST.out.2⟩
              case round =>
                clear HST
                obtain ⟨i, ai, hi, rfl, hset, hq, hbt⟩ := hrel
                have HQi := Lib.hid hq
                have HBt := Lib.hid hbt
                have Hset := Lib.hid hset
                by_cases h6 : i = 6
                · subst h6
                  clear hq hbt hset
                  go_wp2
                  have h4 := HR4.out
                  rw [Hset.out] at h4
                  refine ⟨⟨a5, n2, c5, r2, f', ss ++ [id], id :: seen, ai, sa', j + 1, sc', rfl, rfl, HQi.out, Hmem2.out, ?_, h4.symm⟩, HN2.out.1.1⟩
                  have h1 := HN2.out; have h2 := Hid.out; have h3 := Hf.out
                  omega
                · have hlt : i < 6 := by omega
                  obtain ⟨idi, hidi⟩ : ∃ v, idsN.getD i 0 = v := ⟨_, rfl⟩
                  have hidx := fun W => index6 W (l := idsN) rfl i hlt
                  rw [HZ.out, hidi] at hidx
                  have hwr9 : IntKind.i64.wrap ((i : Int) + 1) = (i : Int) + 1 := IntWalk.i64_in _ (by omega)
                  have Hidi := Lib.hid hidi
                  clear hq hbt hset hidi
                  by_cases hne : idi = id
                  · have hnei : (idi : Int) = (id : Int) := by omega
                    have htk := taker_any wr t HBt.out (by have := HN2.out; omega)
                    have hst : setP id t (i + 1) acc = match takeS t with | some (n, []) => some (ai.set i n) | _ => none := by rw [setP, Hset.out]; dsimp only; rw [if_pos (by rw [Hidi.out]; exact hne)]; first | done | (cases takeS t with | none => rfl | some p => (obtain ⟨v, l⟩ := p; cases l <;> rfl))
                    clear hne
                    cases hT : takeS t with
                    | none =>
                      rw [hT] at hst
                      have h6n : setP id t 6 acc = none := by have := setP_none (i := i + 1) hst (6 - (i + 1)); rwa [show i + 1 + (6 - (i + 1)) = 6 by omega] at this
                      have h4 := HR4.out
                      rw [h6n] at h4
                      have ht2 : Calls Tryd.prog 38 #[.slice a4 nt c4] wr fun e w' => e = .returned (.tuple #[.int .u64 0, .slice none 0 0, .int .i64 2]) ∧ Below wr.heap.size wr w' := htk.mono fun e w' h => by unfold TakePost at h; rw [hT] at h; exact h
                      have HT := Lib.hid ht2
                      have HR5 := Lib.hid h4
                      clear htk ht2 hst h6n h4 hT
                      go_upto_region 23 with (go_at_call 38; refine HT.out.mono ?_; rintro x w5 ⟨rfl, B5⟩)
                      have hq3 := HQi.out.next B5
                      clear HT B5
                      have HZe := Lib.hid hq3.z
                      have HBe := Lib.hid hq3.bel
                      have HRe := Lib.hid HR5.out
                      have hkl9 := hq3.kl
                      go_wp2_with (refine L_storeRow (old := [.int .u64 0, .int .u64 0, .int .u64 0, .int .u64 0, .int .u64 0, .int .u64 0]) rfl 58 _ _ rfl rfl rfl HZe.out iSix rfl rfl (U6_one z6) ?_; intro wz hz hg)
                      refine bodyPost_ret_by (results_row1s rfl _ _ _ _ _ _ rfl hz Tryd.underlying58 rfl iSix) rfl ?_
                      rw [HRe.out]
                      exact ⟨rfl, by rw [Hk.out]; exact HBe.out.grown hg (by omega) (fun j hj => by cases hj; exact Nat.le_refl _)⟩
                    | some vl =>
                      obtain ⟨v, left⟩ := vl
                      rw [hT] at hst
                      have ht2 : Calls Tryd.prog 38 #[.slice a4 nt c4] wr fun e w' => ∃ a' c', e = .returned (.tuple #[.int .u64 (v : Int), .slice a' left.length c', .int .i64 0]) ∧ OW w' wr.heap.size 5 1 a' left.length c' (left.map B) ∧ Below wr.heap.size wr w' := htk.mono fun e w' h => by unfold TakePost at h; rw [hT] at h; exact h
                      have HT := Lib.hid ht2
                      clear htk ht2 hT
                      cases left with
                      | nil =>
                        have Hst := Lib.hid (show setP id t (i + 1) acc = some (ai.set i v) from hst)
                        clear hst
                        go_upto_region 23 with (go_at_call 38; refine HT.out.mono ?_; rintro x w5 ⟨a6, c6, rfl, o6, B5⟩)
                        have hq5 := HQi.out.next B5
                        have ql := hq5.l.at_ i (by rw [hq5.al]; exact hlt)
                        have qf := hq5.l.fr i
                        have HQ5 := Lib.hid hq5
                        have HB5 := Lib.hid (RS.below HBt.out B5 (Nat.le_refl _))
                        clear hq5 o6 B5 HT
                        go_wp2
                        exact ⟨⟨i + 1, ai.set i v, by omega, by simp, Hst.out, HQ5.out.num i v (by omega) (fun ad ha => by have := (Hbt.out.2 ad ha).1; omega), RS.setOther HB5.out (fun y hy => by have := (Hbt.out.1 y hy).1; show y.block ≠ k + 1; omega) _⟩, by simp; omega⟩
                      | cons x0 xs =>
                        have hst : setP id t (i + 1) acc = none := hst
                        have h6n : setP id t 6 acc = none := by have := setP_none (i := i + 1) hst (6 - (i + 1)); rwa [show i + 1 + (6 - (i + 1)) = 6 by omega] at this
                        have h4 := HR4.out
                        rw [h6n] at h4
                        obtain ⟨nl, hnl⟩ : ∃ x, (x0 :: xs).length = x := ⟨_, rfl⟩
                        rw [hnl] at HT
                        have hnl0 : 0 < (nl : Int) := by rw [List.length_cons] at hnl; omega
                        have HR5 := Lib.hid h4
                        clear hst h6n h4 hnl
                        go_upto_region 23 with (go_at_call 38; refine HT.out.mono ?_; rintro x w5 ⟨a6, c6, rfl, o6, B5⟩)
                        have hq3 := HQi.out.next B5
                        clear HT B5 o6
                        have HZe := Lib.hid hq3.z
                        have HBe := Lib.hid hq3.bel
                        have HRe := Lib.hid HR5.out
                        have hkl9 := hq3.kl
                        go_wp2_with (refine L_storeRow (old := [.int .u64 0, .int .u64 0, .int .u64 0, .int .u64 0, .int .u64 0, .int .u64 0]) rfl 58 _ _ rfl rfl rfl HZe.out iSix rfl rfl (U6_one z6) ?_; intro wz hz hg)
                        refine bodyPost_ret_by (results_row1s rfl _ _ _ _ _ _ rfl hz Tryd.underlying58 rfl iSix) rfl ?_
                        rw [HRe.out]
                        exact ⟨rfl, by rw [Hk.out]; exact HBe.out.grown hg (by omega) (fun j hj => by cases hj; exact Nat.le_refl _)⟩
                  · have hnei : ¬ ((idi : Int) = (id : Int)) := by omega
                    have hst : setP id t (i + 1) acc = some ai := by rw [setP, Hset.out]; dsimp only; rw [if_neg (by rw [Hidi.out]; exact hne)]
                    have Hst := Lib.hid hst
                    clear hst hne
                    go_wp2
                    exact ⟨⟨i + 1, ai, by omega, by simp, Hst.out, HQi.out, HBt.out⟩, by simp; omega⟩
            · have hjl : j < sn := by omega
              obtain rfl := Hsg.out (by omega)
              obtain ⟨v, hv⟩ : ∃ v, ss[j]? = some v := ⟨_, List.getElem?_eq_getElem (by rw [Hsl.out]; exact hjl)⟩
              have hcl := HQ3.out.cell hv
              have hwr9 : IntKind.i64.wrap ((j : Int) + 1) = (j : Int) + 1 := IntWalk.i64_in _ (by omega)
              have Hv := Lib.hid hv
              clear hv
              by_cases hvid : v = id
              · have hvi : (v : Int) = (id : Int) := by omega
                have hin : id ∈ seen := (Hmem.out id).1 (List.mem_of_getElem? (by rw [← hvid]; exact Hv.out))
                have hR2 := HR3.out
                rw [if_pos hin] at hR2
                have hq3 := HQ3.out
                have HR5 := Lib.hid hR2
                clear hin hvid hR2
                have HZe := Lib.hid hq3.z
                have HBe := Lib.hid hq3.bel
                have HRe := Lib.hid HR5.out
                have hkl9 := hq3.kl
                go_wp2_with (refine L_storeRow (old := [.int .u64 0, .int .u64 0, .int .u64 0, .int .u64 0, .int .u64 0, .int .u64 0]) rfl 58 _ _ rfl rfl rfl HZe.out iSix rfl rfl (U6_one z6) ?_; intro wz hz hg)
                refine bodyPost_ret_by (results_row1s rfl _ _ _ _ _ _ rfl hz Tryd.underlying58 rfl iSix) rfl ?_
                rw [HRe.out]
                exact ⟨rfl, by rw [Hk.out]; exact HBe.out.grown hg (by omega) (fun j hj => by cases hj; exact Nat.le_refl _)⟩
              · have hvi : ¬ ((v : Int) = (id : Int)) := by omega
                go_wp2
                refine ⟨⟨j + 1, by omega, by simp, fun q hq => ?_, trivial⟩, by simp; omega⟩
                by_cases hqj : q = j
                · subst hqj; rw [Hv.out]; intro he; injection he with he; exact hvid he
                · exact Hno.out q (by omega)
end Go.Proofs.YtkhcpnmbhbhcgaaDoor

/- law13.GreetParams: its walk. -/
set_option maxRecDepth 100000
set_option linter.unusedVariables false
namespace Go.Proofs.YtkhcpnmbhbhcgaaDoor
open Go.RowKit Go.Joins
def qR (R : Option (List Nat)) : List Nat := R.getD z6
def eR (R : Option (List Nat)) : Int := if R = none then 4 else 0
theorem RPost.is {R : Option (List Nat)} {w w' : World} {e : Ending} (h : RPost R w e w') : (qR R).length = 6 ∧ e = .returned (.tuple #[.agg (U6 (qR R)).toArray, .int .i64 (eR R)]) ∧ Below w.heap.size w w' := by
  cases R with
  | none => exact ⟨rfl, h.1, h.2⟩
  | some l => exact ⟨h.1.1, h.1.2, h.2⟩
/-- the first so many are cut -/
def minI (l : List Nat) : Nat → List Nat
  | 0 => l
  | i + 1 => (minI l i).set i (min (l.getD i 0) 4611686018427387903)
theorem minI_len (l : List Nat) : ∀ i, (minI l i).length = l.length
  | 0 => rfl
  | i + 1 => by rw [minI, List.length_set]; exact minI_len l i
theorem minI_get (l : List Nat) {j : Nat} : ∀ i, i ≤ j → (minI l i).getD j 0 = l.getD j 0
  | 0, _ => rfl
  | i + 1, h => by
    rw [minI, List.getD_eq_getElem?_getD, List.getElem?_set, if_neg (by omega), ← List.getD_eq_getElem?_getD]
    exact minI_get l i (by omega)
theorem minI_six {l : List Nat} (h : l.length = 6) : minI l 6 = l.map (min · 4611686018427387903) := by
  obtain ⟨a, b, c, d, e, f, rfl⟩ := six h
  rfl
theorem U6_app (a b c d e f : Nat) : (U6 [a, b, c, d, e, f]).toArray = #[.int .u64 (a : Int), .int .u64 (b : Int), .int .u64 (c : Int), .int .u64 (d : Int), .int .u64 (e : Int), .int .u64 (f : Int)] := rfl
theorem prS_len : ∀ {f : Nat} {b : List UInt8} {seen acc l : List Nat}, prS f b seen acc = some l → acc.length = 6 → l.length = 6
  | 0, b, seen, acc, l, h, ha => by cases h; exact ha
  | f + 1, b, seen, acc, l, h, ha => by
    rw [prS] at h
    split at h
    · cases h; exact ha
    · split at h
      · cases h
      · split at h
        · cases h
        · split at h
          · cases h
          · split at h
            · cases h
            · next a hs => exact prS_len h ((setP_len hs).trans ha)
set_option maxHeartbeats 8000000 in
theorem greetParams_walk (W : World) {l : List Nat} (h6 : l.length = 6) (hv : ∀ x ∈ l, x < 18446744073709551616) {a : Option Addr} {n c : Nat} {b : List UInt8} (hb : BS W a n c b) (hK : KT W) (hI : TI W 0) (hO : TI W 1) :
    Calls Tryd.prog 7 #[.agg (U6 l).toArray, .slice a n c] W fun e W' => e = .returned (.bool true) ∧ Below W.heap.size W W' := by
  have hA : R6 (W.alloc (.cells (U6 l).toArray 58)) W.heap.size 58 l := heap_alloc_new W _
  have hbl := below_alloc W (.cells (U6 l).toArray 58)
  have hback := pr_back h6
  have hm6 := minI_six h6
  obtain ⟨l0, l1, l2, l3, l4, l5, rfl⟩ := six h6
  obtain ⟨W1, hW1⟩ : ∃ x, W.alloc (.cells (U6 [l0, l1, l2, l3, l4, l5]).toArray 58) = x := ⟨_, rfl⟩
  obtain ⟨k, hk⟩ : ∃ k, W.heap.size = k := ⟨_, rfl⟩
  rw [hW1, hk] at hA
  rw [hW1] at hbl
  rw [U6_app] at hW1 ⊢
  have HA1 := Lib.hid hA
  have Hbl := Lib.hid hbl
  have Haw := Lib.hid (awake13_any W1 (hK.below hbl (Nat.le_refl _)))
  have HTI := Lib.hid (And.intro (hI.bel hbl (Nat.le_refl _)) (hO.bel hbl (Nat.le_refl _)))
  have Hbs := Lib.hid (RS.below hb hbl (Nat.le_refl _))
  have H6 := Lib.hid (And.intro h6 hv)
  have Hk := Lib.hid hk
  have Hgk := Lib.hid (show 0 < k by rw [← hk]; exact hI.lt)
  have Hback := Lib.hid (And.intro hback hm6)
  clear hA hbl h6 hv hb hK hI hO hback hm6
  go_enter Tryd.func7, Tryd.ntmps7
  go_upto_region 1 with (fail)
  clear hW1 hk
  go_upto_region 3 with (go_at_call 8; refine Haw.out.mono ?_; rintro x w2 ⟨rfl, hb2⟩)
  have hcut := cutx_any w2 (RS.below Hbs.out hb2 (Nat.le_refl _)) 100 (by omega)
  obtain ⟨b1, hb1⟩ : ∃ x, b.take 100 = x := ⟨_, rfl⟩
  have lb1 : b1.length ≤ 100 := by rw [← hb1, List.length_take]; omega
  rw [hb1] at hcut
  obtain ⟨nb, hnb⟩ : ∃ x, b1.length = x := ⟨_, rfl⟩
  rw [hnb] at hcut
  have Hcut := Lib.hid hcut
  have HA2 := Lib.hid (HA1.out.bel hb2)
  have HT2 := Lib.hid (And.intro (HTI.out.1.bel hb2 (Nat.le_refl _)) (HTI.out.2.bel hb2 (Nat.le_refl _)))
  have HB2 := Lib.hid (btr Hbl.out hb2)
  have Hlb := Lib.hid lb1
  clear hcut hb2 Haw HTI Hbs HA1 Hbl hb1 hnb lb1
  go_upto_region 4 with (go_at_call 18; refine Hcut.out.mono ?_; rintro x w3 ⟨a3, c3, rfl, o3, B3⟩)
  have hA3 := HA2.out.bel B3
  have v0 : w3.cell? ⟨k, 0, none⟩ = some (.int .u64 (l0 : Int)) := hA3.at_ 0 (by simp)
  have v1 : w3.cell? ⟨k, 1, none⟩ = some (.int .u64 (l1 : Int)) := hA3.at_ 1 (by simp)
  have v2 : w3.cell? ⟨k, 2, none⟩ = some (.int .u64 (l2 : Int)) := hA3.at_ 2 (by simp)
  have v3 : w3.cell? ⟨k, 3, none⟩ = some (.int .u64 (l3 : Int)) := hA3.at_ 3 (by simp)
  have v4 : w3.cell? ⟨k, 4, none⟩ = some (.int .u64 (l4 : Int)) := hA3.at_ 4 (by simp)
  have v5 : w3.cell? ⟨k, 5, none⟩ = some (.int .u64 (l5 : Int)) := hA3.at_ 5 (by simp)
  have HA3 := Lib.hid hA3
  have HT3 := Lib.hid (And.intro (HT2.out.1.bel B3 (Nat.le_refl _)) (HT2.out.2.bel B3 (Nat.le_refl _)))
  have HB3 := Lib.hid (btr HB2.out B3)
  have HO3 := Lib.hid (show BS w3 a3 nb c3 b1 from o3.rs)
  clear hA3 B3 o3 HA2 HT2 HB2 Hcut
  go_upto_region 5 with (refine L_storeRow (old := [.int .u64 0, .int .u64 0, .int .u64 0, .int .u64 0, .int .u64 0, .int .u64 0]) (new := U6 [l0, l1, l2, l3, l4, l5]) rfl 60 _ _ rfl rfl rfl (heap_alloc_at w3 _ rfl) iParams rfl rfl (U6_one [l0, l1, l2, l3, l4, l5]) ?_; intro w4 hz4 hg4)
  clear v0 v1 v2 v3 v4 v5
  have B4 : Below w3.heap.size w3 w4 := (below_alloc w3 _).grown hg4 (by simp) (fun j hj => by cases hj; exact Nat.le_refl _)
  obtain ⟨k5, hk5⟩ : ∃ x, w3.heap.size = x := ⟨_, rfl⟩
  have Hkk := Lib.hid (show k < k5 by rw [← hk5]; exact HA3.out.lt)
  rw [hk5] at hz4 ⊢
  have HP4 := Lib.hid (show R6 w4 k5 60 [l0, l1, l2, l3, l4, l5] from hz4)
  have HA4 := Lib.hid (HA3.out.bel B4)
  have HT4 := Lib.hid (And.intro (HT3.out.1.bel B4 (Nat.le_refl _)) (HT3.out.2.bel B4 (Nat.le_refl _)))
  have HB4 := Lib.hid (btr HB3.out B4)
  have HO4 := Lib.hid (RS.below HO3.out B4 (Nat.le_refl _))
  clear hz4 hg4 B4 hk5 HA3 HT3 HB3 HO3
  obtain ⟨R, hR⟩ : ∃ R, prS b1.length b1 [] z6 = R := ⟨_, rfl⟩
  have hr1 : ∀ w' : World, BS w' a3 nb c3 b1 → TI w' 0 → Calls Tryd.prog 21 #[.slice a3 nb c3] w' fun e w'' => (qR R).length = 6 ∧ e = .returned (.tuple #[.agg (U6 (qR R)).toArray, .int .i64 (eR R)]) ∧ Below w'.heap.size w' w'' := fun w' h1 h2 => by
    have h := greadp_any w' h1 (by have := Hlb.out; omega) h2
    rw [hR] at h
    exact h.mono fun e w'' h => h.is
  have hr2 : ∀ w' : World, BS w' a3 nb c3 b1 → TI w' 1 → Calls Tryd.prog 22 #[.slice a3 nb c3] w' fun e w'' => (qR R).length = 6 ∧ e = .returned (.tuple #[.agg (U6 (qR R)).toArray, .int .i64 (eR R)]) ∧ Below w'.heap.size w' w'' := fun w' h1 h2 => by
    have h := rreadp_any w' h1 (by have := Hlb.out; omega) h2
    rw [hR] at h
    exact h.mono fun e w'' h => h.is
  obtain ⟨q, hq⟩ : ∃ x, qR R = x := ⟨_, rfl⟩
  obtain ⟨ee, hee⟩ : ∃ x, eR R = x := ⟨_, rfl⟩
  rw [hq, hee] at hr1 hr2
  have q6 : q.length = 6 := by
    rw [← hq, ← hR]
    by_cases hc : ∃ l, prS b1.length b1 [] z6 = some l
    · obtain ⟨l, hl⟩ := hc
      rw [hl]
      exact prS_len hl rfl
    · cases hp : prS b1.length b1 [] z6 with
      | none => rfl
      | some l => exact absurd ⟨l, hp⟩ hc
  obtain ⟨q0, q1, q2, q3, q4, q5, rfl⟩ := six q6
  have Hr1 := Lib.hid hr1
  have Hr2 := Lib.hid hr2
  clear hr1 hr2 hq hee q6 hR
  have hL6 : (U6 [q0, q1, q2, q3, q4, q5]).length = 6 := rfl
  have HL6 := Lib.hid hL6
  clear hL6
  go_upto_region 6 with (first
    | (go_at_call 21; refine (Hr1.out w4 HO4.out HT4.out.1).mono ?_; rintro x w5 ⟨_, rfl, B5⟩)
    | (refine L_storeRow (old := [.int .u64 0, .int .u64 0, .int .u64 0, .int .u64 0, .int .u64 0, .int .u64 0]) (new := U6 [q0, q1, q2, q3, q4, q5]) rfl 60 _ _ rfl rfl rfl (heap_alloc_at w5 _ rfl) iParams rfl rfl (U6_one [q0, q1, q2, q3, q4, q5]) ?_; intro w6 hz6 hg6))
  have B6 : Below w4.heap.size w4 w6 := (B5.alloc B5.size _).grown hg6 (by have := B5.size; simp; omega) (fun j hj => by cases hj; exact B5.size)
  obtain ⟨k6, hk6⟩ : ∃ x, w5.heap.size = x := ⟨_, rfl⟩
  rw [hk6] at hz6 ⊢
  have HQ6 := Lib.hid (show R6 w6 k6 60 [q0, q1, q2, q3, q4, q5] from hz6)
  have HP6 := Lib.hid (HP4.out.bel B6)
  have HA6 := Lib.hid (HA4.out.bel B6)
  have HT6 := Lib.hid (And.intro (HT4.out.1.bel B6 (Nat.le_refl _)) (HT4.out.2.bel B6 (Nat.le_refl _)))
  have HB6 := Lib.hid (btr HB4.out B6)
  have HO6 := Lib.hid (RS.below HO4.out B6 (Nat.le_refl _))
  clear hz6 hg6 B5 B6 hk6 HP4 HA4 HT4 HB4 HO4 Hr1
  go_upto_region 7 with (first
    | (go_at_call 22; refine (Hr2.out w6 HO6.out HT6.out.2).mono ?_; rintro x w7 ⟨_, rfl, B7⟩)
    | (refine L_storeRow (old := [.int .u64 0, .int .u64 0, .int .u64 0, .int .u64 0, .int .u64 0, .int .u64 0]) (new := U6 [q0, q1, q2, q3, q4, q5]) rfl 58 _ _ rfl rfl rfl (heap_alloc_at w7 _ rfl) iSix rfl rfl (U6_one [q0, q1, q2, q3, q4, q5]) ?_; intro w8 hz8 hg8))
  have B8 : Below w6.heap.size w6 w8 := (B7.alloc B7.size _).grown hg8 (by have := B7.size; simp; omega) (fun j hj => by cases hj; exact B7.size)
  obtain ⟨k8, hk8⟩ : ∃ x, w7.heap.size = x := ⟨_, rfl⟩
  rw [hk8] at hz8 ⊢
  obtain ⟨V, hV⟩ : ∃ V, w8.drew = V := ⟨_, rfl⟩
  have bV : Below w8.heap.size w8 V := by rw [← hV]; exact (Below.refl _ w8).drew
  have BV := btr B8 bV
  have HR8 := Lib.hid ((show R6 w8 k8 58 [q0, q1, q2, q3, q4, q5] from hz8).bel bV)
  have HQ8 := Lib.hid (HQ6.out.bel BV)
  have HP8 := Lib.hid (HP6.out.bel BV)
  have HA8 := Lib.hid (HA6.out.bel BV)
  have HT8 := Lib.hid (And.intro (HT6.out.1.bel BV (Nat.le_refl _)) (HT6.out.2.bel BV (Nat.le_refl _)))
  have HB8 := Lib.hid (btr HB6.out BV)
  clear hz8 hg8 B7 B8 hk8 bV BV HQ6 HP6 HA6 HT6 HB6 HO6 Hr2
  have hs1 : V.rangeAt k5 0 (U6 [l0, l1, l2, l3, l4, l5]) := HP8.out.rng
  have hs2 : V.rangeAt k 0 (U6 [l0, l1, l2, l3, l4, l5]) := HA8.out.rng
  have hs3 : V.rangeAt k6 0 (U6 [q0, q1, q2, q3, q4, q5]) := HQ8.out.rng
  have hs4 : V.rangeAt k8 0 (U6 [q0, q1, q2, q3, q4, q5]) := HR8.out.rng
  have lk5 := HP8.out.lt
  have lk := HA8.out.lt
  have lk6 := HQ8.out.lt
  have lk8 := HR8.out.lt
  have huP := Tryd.underlying60
  have huS := Tryd.underlying58
  have iP : (Tryd.prog.info? 60).map (·.size) = some (U6 [l0, l1, l2, l3, l4, l5]).length := iParams
  have iS : (Tryd.prog.info? 58).map (·.size) = some (U6 [l0, l1, l2, l3, l4, l5]).length := iSix
  have iQ : (Tryd.prog.info? 60).map (·.size) = some (U6 [q0, q1, q2, q3, q4, q5]).length := iParams
  have Hbel := Lib.hid (fun (w' : World) (B : Below V.heap.size V w') => (⟨rng_bel hs1 B lk5, rng_bel hs2 B lk, rng_bel hs3 B lk6, rng_bel hs4 B lk8⟩ : w'.rangeAt k5 0 (U6 [l0, l1, l2, l3, l4, l5]) ∧ w'.rangeAt k 0 (U6 [l0, l1, l2, l3, l4, l5]) ∧ w'.rangeAt k6 0 (U6 [q0, q1, q2, q3, q4, q5]) ∧ w'.rangeAt k8 0 (U6 [q0, q1, q2, q3, q4, q5])))
  refine wp_region_held_drew (S := fun w' => w'.rangeAt k5 0 (U6 [l0, l1, l2, l3, l4, l5]) ∧ w'.rangeAt k 0 (U6 [l0, l1, l2, l3, l4, l5]) ∧ w'.rangeAt k6 0 (U6 [q0, q1, q2, q3, q4, q5]) ∧ w'.rangeAt k8 0 (U6 [q0, q1, q2, q3, q4, q5])) (by kernel_rfl) (by rw [hV]; exact ⟨hs1, hs2, hs3, hs4⟩) (fun hHeld => ?_)
  rw [hV] at hHeld ⊢
  clear hV hs1 hs2 hs3 hs4
  refine wpAnyH_take (i := 0) rfl (by kernel_rfl) (by kernel_rfl) (by kernel_rfl) (fun _ _ _ h => h) (yieldsIf_load_mid (by rfl) _ _ rfl _ _ rfl _ _ (fun w h => h.1) huP rfl iP) hHeld ?_
  try simp only [Act.put, List.getElem_toArray, List.getElem_cons_zero, List.setIfInBounds_toArray, List.set_cons_zero, List.set_cons_succ]
  refine wpAnyH_take (i := 2) rfl (by kernel_rfl) (by kernel_rfl) (by kernel_rfl) (fun _ _ _ h => h) (yieldsIf_load_mid (by rfl) _ _ rfl _ _ rfl _ _ (fun w h => h.2.1) huS rfl iS) hHeld ?_
  try simp only [Act.put, List.getElem_toArray, List.getElem_cons_succ, List.getElem_cons_zero, List.setIfInBounds_toArray, List.set_cons_zero, List.set_cons_succ]
  refine wpAnyH_ready (rs := [1]) (by kernel_rfl) (by simp) (AllReadyH.cons rfl (fun K hK => ?_) AllReadyH.nil)
  go_simp
  go_at_call 23
  refine (pbytes_any V (l := [l0, l1, l2, l3, l4, l5]) rfl H6.out.2 HT8.out.1).mono ?_
  rintro x y1 ⟨e1, m1, d1, rfl, P1⟩
  refine hK.out _ _ (Hbel.out y1 P1.bel) (fun hHeld => ?_)
  clear hK K
  have HO1 := Lib.hid (show BS y1 e1 m1 d1 (pbS [l0, l1, l2, l3, l4, l5] 6) from P1.ow.rs)
  have HB1 := Lib.hid P1.bel
  clear P1
  try simp only [Act.put, List.getElem_toArray, List.getElem_cons_succ, List.getElem_cons_zero, List.setIfInBounds_toArray, List.set_cons_zero, List.set_cons_succ]
  refine wpAnyH_ready (rs := [3]) (by kernel_rfl) (by simp) (AllReadyH.cons rfl (fun K hK => ?_) AllReadyH.nil)
  go_simp
  go_at_call 24
  refine (rpbytes_any y1 (l := [l0, l1, l2, l3, l4, l5]) rfl H6.out.2 (HT8.out.2.bel HB1.out (Nat.le_refl _))).mono ?_
  rintro x y2 ⟨e2, m2, d2, rfl, P2⟩
  refine hK.out _ _ (Hbel.out y2 (btr HB1.out P2.bel)) (fun hHeld => ?_)
  clear hK K
  have HO2 := Lib.hid (And.intro (RS.below HO1.out P2.bel (Nat.le_refl _)) (show BS y2 e2 m2 d2 (pbS [l0, l1, l2, l3, l4, l5] 6) from P2.ow.rs))
  have HB2 := Lib.hid (btr HB1.out P2.bel)
  clear P2 HO1 HB1
  try simp only [Act.put, List.getElem_toArray, List.getElem_cons_succ, List.getElem_cons_zero, List.setIfInBounds_toArray, List.set_cons_zero, List.set_cons_succ]
  refine wpAnyH_ready (rs := [4]) (by kernel_rfl) (by simp) (AllReadyH.cons rfl (fun K hK => ?_) AllReadyH.nil)
  go_simp
  go_at_call 17
  have hsm := same_any y2 HO2.out.1 HO2.out.2
  rw [beq_self_eq_true] at hsm
  refine hsm.mono ?_
  rintro x y3 ⟨rfl, rfl⟩
  refine hK.out _ _ hHeld (fun hHeld => ?_)
  clear hK K hsm
  try simp only [Act.put, List.getElem_toArray, List.getElem_cons_succ, List.getElem_cons_zero, List.setIfInBounds_toArray, List.set_cons_zero, List.set_cons_succ]
  refine wpAnyH_take (i := 5) (v := .bool false) rfl (by kernel_rfl) (by kernel_rfl) (by kernel_rfl) (fun _ _ _ h => h) (Or.inl ⟨by rfl, fun w h => by go_simp⟩) hHeld ?_
  try simp only [Act.put, List.getElem_toArray, List.getElem_cons_succ, List.getElem_cons_zero, List.setIfInBounds_toArray, List.set_cons_zero, List.set_cons_succ]
  refine wpAnyH_take (i := 6) (v := .bool false) rfl (by kernel_rfl) (by kernel_rfl) (by kernel_rfl) (fun _ _ _ h => h) (Or.inl ⟨by rfl, fun w h => by go_simp⟩) hHeld ?_
  try simp only [Act.put, List.getElem_toArray, List.getElem_cons_succ, List.getElem_cons_zero, List.setIfInBounds_toArray, List.set_cons_zero, List.set_cons_succ]
  refine wpAnyH_take (i := 7) (v := .int .i64 ee) rfl (by kernel_rfl) (by kernel_rfl) (by kernel_rfl) (fun _ _ _ h => h) (Or.inl ⟨by rfl, fun w h => by go_simp⟩) hHeld ?_
  try simp only [Act.put, List.getElem_toArray, List.getElem_cons_succ, List.getElem_cons_zero, List.setIfInBounds_toArray, List.set_cons_zero, List.set_cons_succ]
  refine wpAnyH_take (i := 8) (v := .int .i64 ee) rfl (by kernel_rfl) (by kernel_rfl) (by kernel_rfl) (fun _ _ _ h => h) (Or.inl ⟨by rfl, fun w h => by go_simp⟩) hHeld ?_
  try simp only [Act.put, List.getElem_toArray, List.getElem_cons_succ, List.getElem_cons_zero, List.setIfInBounds_toArray, List.set_cons_zero, List.set_cons_succ]
  refine wpAnyH_take (i := 9) (v := .bool false) rfl (by kernel_rfl) (by kernel_rfl) (by kernel_rfl) (fun _ _ _ h => h) (Or.inl ⟨by rfl, fun w h => by go_simp⟩) hHeld ?_
  try simp only [Act.put, List.getElem_toArray, List.getElem_cons_succ, List.getElem_cons_zero, List.setIfInBounds_toArray, List.set_cons_zero, List.set_cons_succ]
  refine wpAnyH_take (i := 10) (v := .bool false) rfl (by kernel_rfl) (by kernel_rfl) (by kernel_rfl) (fun _ _ _ h => h) (Or.inl ⟨by rfl, fun w h => by go_simp⟩) hHeld ?_
  try simp only [Act.put, List.getElem_toArray, List.getElem_cons_succ, List.getElem_cons_zero, List.setIfInBounds_toArray, List.set_cons_zero, List.set_cons_succ]
  refine wpAnyH_take (i := 11) (v := .bool false) rfl (by kernel_rfl) (by kernel_rfl) (by kernel_rfl) (fun _ _ _ h => h) (Or.inl ⟨by rfl, fun w h => by go_simp⟩) hHeld ?_
  try simp only [Act.put, List.getElem_toArray, List.getElem_cons_succ, List.getElem_cons_zero, List.setIfInBounds_toArray, List.set_cons_zero, List.set_cons_succ]
  refine wpAnyH_take (i := 12) rfl (by kernel_rfl) (by kernel_rfl) (by kernel_rfl) (fun _ _ _ h => h) (yieldsIf_load_mid (by rfl) _ _ rfl _ _ rfl _ _ (fun w h => h.2.2.1) huP rfl iQ) hHeld ?_
  try simp only [Act.put, List.getElem_toArray, List.getElem_cons_succ, List.getElem_cons_zero, List.setIfInBounds_toArray, List.set_cons_zero, List.set_cons_succ]
  refine wpAnyH_take (i := 13) (v := .pointer (some ⟨k8, 0, none⟩)) rfl (by kernel_rfl) (by kernel_rfl) (by kernel_rfl) (fun _ _ _ h => h) (Or.inl ⟨by rfl, fun w h => by go_simp⟩) hHeld ?_
  try simp only [Act.put, List.getElem_toArray, List.getElem_cons_succ, List.getElem_cons_zero, List.setIfInBounds_toArray, List.set_cons_zero, List.set_cons_succ]
  refine wpAnyH_take (i := 14) (v := .int .u64 (q0 : Int)) rfl (by kernel_rfl) (by kernel_rfl) (by kernel_rfl) (fun _ _ _ h => h) (Or.inl ⟨by rfl, fun w h => by have h2 : w.cell? ⟨k8, 0, none⟩ = some (.int .u64 (q0 : Int)) := (by have := h.2.2.2 0 _ rfl; simpa using this); go_simp⟩) hHeld ?_
  try simp only [Act.put, List.getElem_toArray, List.getElem_cons_succ, List.getElem_cons_zero, List.setIfInBounds_toArray, List.set_cons_zero, List.set_cons_succ]
  refine wpAnyH_take (i := 15) (v := .pointer (some ⟨k8, 1, none⟩)) rfl (by kernel_rfl) (by kernel_rfl) (by kernel_rfl) (fun _ _ _ h => h) (Or.inl ⟨by rfl, fun w h => by go_simp⟩) hHeld ?_
  try simp only [Act.put, List.getElem_toArray, List.getElem_cons_succ, List.getElem_cons_zero, List.setIfInBounds_toArray, List.set_cons_zero, List.set_cons_succ]
  refine wpAnyH_take (i := 16) (v := .int .u64 (q1 : Int)) rfl (by kernel_rfl) (by kernel_rfl) (by kernel_rfl) (fun _ _ _ h => h) (Or.inl ⟨by rfl, fun w h => by have h2 : w.cell? ⟨k8, 1, none⟩ = some (.int .u64 (q1 : Int)) := (by have := h.2.2.2 1 _ rfl; simpa using this); go_simp⟩) hHeld ?_
  try simp only [Act.put, List.getElem_toArray, List.getElem_cons_succ, List.getElem_cons_zero, List.setIfInBounds_toArray, List.set_cons_zero, List.set_cons_succ]
  refine wpAnyH_take (i := 17) (v := .pointer (some ⟨k8, 2, none⟩)) rfl (by kernel_rfl) (by kernel_rfl) (by kernel_rfl) (fun _ _ _ h => h) (Or.inl ⟨by rfl, fun w h => by go_simp⟩) hHeld ?_
  try simp only [Act.put, List.getElem_toArray, List.getElem_cons_succ, List.getElem_cons_zero, List.setIfInBounds_toArray, List.set_cons_zero, List.set_cons_succ]
  refine wpAnyH_take (i := 18) (v := .int .u64 (q2 : Int)) rfl (by kernel_rfl) (by kernel_rfl) (by kernel_rfl) (fun _ _ _ h => h) (Or.inl ⟨by rfl, fun w h => by have h2 : w.cell? ⟨k8, 2, none⟩ = some (.int .u64 (q2 : Int)) := (by have := h.2.2.2 2 _ rfl; simpa using this); go_simp⟩) hHeld ?_
  try simp only [Act.put, List.getElem_toArray, List.getElem_cons_succ, List.getElem_cons_zero, List.setIfInBounds_toArray, List.set_cons_zero, List.set_cons_succ]
  refine wpAnyH_take (i := 19) (v := .pointer (some ⟨k8, 3, none⟩)) rfl (by kernel_rfl) (by kernel_rfl) (by kernel_rfl) (fun _ _ _ h => h) (Or.inl ⟨by rfl, fun w h => by go_simp⟩) hHeld ?_
  try simp only [Act.put, List.getElem_toArray, List.getElem_cons_succ, List.getElem_cons_zero, List.setIfInBounds_toArray, List.set_cons_zero, List.set_cons_succ]
  refine wpAnyH_take (i := 20) (v := .int .u64 (q3 : Int)) rfl (by kernel_rfl) (by kernel_rfl) (by kernel_rfl) (fun _ _ _ h => h) (Or.inl ⟨by rfl, fun w h => by have h2 : w.cell? ⟨k8, 3, none⟩ = some (.int .u64 (q3 : Int)) := (by have := h.2.2.2 3 _ rfl; simpa using this); go_simp⟩) hHeld ?_
  try simp only [Act.put, List.getElem_toArray, List.getElem_cons_succ, List.getElem_cons_zero, List.setIfInBounds_toArray, List.set_cons_zero, List.set_cons_succ]
  refine wpAnyH_take (i := 21) (v := .pointer (some ⟨k8, 4, none⟩)) rfl (by kernel_rfl) (by kernel_rfl) (by kernel_rfl) (fun _ _ _ h => h) (Or.inl ⟨by rfl, fun w h => by go_simp⟩) hHeld ?_
  try simp only [Act.put, List.getElem_toArray, List.getElem_cons_succ, List.getElem_cons_zero, List.setIfInBounds_toArray, List.set_cons_zero, List.set_cons_succ]
  refine wpAnyH_take (i := 22) (v := .int .u64 (q4 : Int)) rfl (by kernel_rfl) (by kernel_rfl) (by kernel_rfl) (fun _ _ _ h => h) (Or.inl ⟨by rfl, fun w h => by have h2 : w.cell? ⟨k8, 4, none⟩ = some (.int .u64 (q4 : Int)) := (by have := h.2.2.2 4 _ rfl; simpa using this); go_simp⟩) hHeld ?_
  try simp only [Act.put, List.getElem_toArray, List.getElem_cons_succ, List.getElem_cons_zero, List.setIfInBounds_toArray, List.set_cons_zero, List.set_cons_succ]
  refine wpAnyH_take (i := 23) (v := .pointer (some ⟨k8, 5, none⟩)) rfl (by kernel_rfl) (by kernel_rfl) (by kernel_rfl) (fun _ _ _ h => h) (Or.inl ⟨by rfl, fun w h => by go_simp⟩) hHeld ?_
  try simp only [Act.put, List.getElem_toArray, List.getElem_cons_succ, List.getElem_cons_zero, List.setIfInBounds_toArray, List.set_cons_zero, List.set_cons_succ]
  refine wpAnyH_take (i := 24) (v := .int .u64 (q5 : Int)) rfl (by kernel_rfl) (by kernel_rfl) (by kernel_rfl) (fun _ _ _ h => h) (Or.inl ⟨by rfl, fun w h => by have h2 : w.cell? ⟨k8, 5, none⟩ = some (.int .u64 (q5 : Int)) := (by have := h.2.2.2 5 _ rfl; simpa using this); go_simp⟩) hHeld ?_
  try simp only [Act.put, List.getElem_toArray, List.getElem_cons_succ, List.getElem_cons_zero, List.setIfInBounds_toArray, List.set_cons_zero, List.set_cons_succ]
  refine wpAnyH_take (i := 25) (v := .agg #[.int .u64 (q0 : Int), .int .u64 (q1 : Int), .int .u64 (q2 : Int), .int .u64 (q3 : Int), .int .u64 (q4 : Int), .int .u64 (q5 : Int)]) rfl (by kernel_rfl) (by kernel_rfl) (by kernel_rfl) (fun _ _ _ h => h) (Or.inl ⟨by rfl, fun w h => by go_simp⟩) hHeld ?_
  try simp only [Act.put, List.getElem_toArray, List.getElem_cons_succ, List.getElem_cons_zero, List.setIfInBounds_toArray, List.set_cons_zero, List.set_cons_succ]
  rw [U6_app q0]
  refine wpAnyH_take (i := 26) (v := .bool false) rfl (by kernel_rfl) (by kernel_rfl) (by kernel_rfl) (fun _ _ _ h => h) (Or.inl ⟨by rfl, fun w h => by go_simp⟩) hHeld ?_
  try simp only [Act.put, List.getElem_toArray, List.getElem_cons_succ, List.getElem_cons_zero, List.setIfInBounds_toArray, List.set_cons_zero, List.set_cons_succ]
  refine wpAnyH_take (i := 27) (v := .bool false) rfl (by kernel_rfl) (by kernel_rfl) (by kernel_rfl) (fun _ _ _ h => h) (Or.inl ⟨by rfl, fun w h => by go_simp⟩) hHeld ?_
  try simp only [Act.put, List.getElem_toArray, List.getElem_cons_succ, List.getElem_cons_zero, List.setIfInBounds_toArray, List.set_cons_zero, List.set_cons_succ]
  refine wpAnyH_done (by kernel_rfl) ?_ _
  try simp only [Act.put, List.getElem_toArray, List.getElem_cons_succ, List.getElem_cons_zero]
  clear hHeld huP huS iP iS iQ Hbel lk5 lk lk6 lk8 HL6
  have HS := Lib.hid (show R6 y2 k 58 (minI [l0, l1, l2, l3, l4, l5] 0) ∧ R6 y2 k5 60 [l0, l1, l2, l3, l4, l5] ∧ TI y2 0 ∧ Below W.heap.size W y2 from ⟨HA8.out.bel HB2.out, HP8.out.bel HB2.out, HT8.out.1.bel HB2.out (Nat.le_refl _), btr HB8.out HB2.out⟩)
  clear HO2 HB2 HA8 HP8 HT8 HB8 HQ8 HR8
  go_upto_region 10 with (fail)
  go_loopw [68] (fun s68 wr => ∃ i : Nat, i ≤ 6 ∧ s68 = .int .i64 (i : Int) ∧ R6 wr k 58 (minI [l0, l1, l2, l3, l4, l5] i) ∧ R6 wr k5 60 [l0, l1, l2, l3, l4, l5] ∧ TI wr 0 ∧ Below W.heap.size W wr) (fun s68 _ => match s68 with | .int _ x => (6 - x).toNat | _ => 0)
  case atStart => exact ⟨0, by omega, rfl, HS.out⟩
  case round =>
    clear HS
    obtain ⟨i, hi, rfl, hA, hP, hI, hB⟩ := hrel
    have HI := Lib.hid hI
    have HB := Lib.hid hB
    have HAi := Lib.hid hA
    have HPi := Lib.hid hP
    by_cases h6 : i = 6
    · subst h6
      have HM := Lib.hid (show R6 wr k 58 ([l0, l1, l2, l3, l4, l5].map (min · 4611686018427387903)) by rw [← Hback.out.2]; exact hA)
      clear hA hP hI hB HAi
      have Hrg := Lib.hid HPi.out.rng
      have hpb := pbytes_any wr (l := [l0, l1, l2, l3, l4, l5]) rfl H6.out.2 HI.out
      have Hpb := Lib.hid hpb
      clear hpb
      go_upto_region 15 with (first
        | (refine wpList_load_mid rfl _ _ rfl _ _ rfl _ _ Hrg.out Tryd.underlying60 rfl iParams ?_)
        | (go_at_call 23; refine Hpb.out.mono ?_; rintro x y4 ⟨e4, m4, d4, rfl, P4⟩; have hrp := greadp_any y4 (show BS y4 e4 m4 d4 (pbS [l0, l1, l2, l3, l4, l5] 6) from P4.ow.rs) (by have := pbS_len [l0, l1, l2, l3, l4, l5] 6; omega) (HI.out.bel P4.bel (Nat.le_refl _)); rw [Hback.out.1] at hrp)
        | (go_at_call 21; refine hrp.mono ?_; rintro x y5 ⟨⟨_, rfl⟩, B5⟩)
        | (refine L_storeRow (old := [.int .u64 0, .int .u64 0, .int .u64 0, .int .u64 0, .int .u64 0, .int .u64 0]) (new := U6 ([l0, l1, l2, l3, l4, l5].map (min · 4611686018427387903))) rfl 60 _ _ rfl rfl rfl (heap_alloc_at y5 _ rfl) iParams rfl rfl (U6_one _) ?_; intro y6 hz6 hg6))
      have B6 : Below wr.heap.size wr y6 := ((P4.bel.trans (B5.mono P4.bel.size)).alloc (Nat.le_trans P4.bel.size B5.size) _).grown hg6 (by have := P4.bel.size; have := B5.size; simp; omega) (fun j hj => by cases hj; exact Nat.le_trans P4.bel.size B5.size)
      obtain ⟨k7, hk7⟩ : ∃ x, y5.heap.size = x := ⟨_, rfl⟩
      rw [hk7] at hz6 ⊢
      have hM6 := HM.out.bel B6
      have hN6 : R6 y6 k7 60 ([l0, l1, l2, l3, l4, l5].map (min · 4611686018427387903)) := hz6
      have HB6 := Lib.hid (btr HB.out B6)
      obtain ⟨M0, hM0⟩ : ∃ x, min l0 4611686018427387903 = x := ⟨_, rfl⟩
      obtain ⟨M1, hM1⟩ : ∃ x, min l1 4611686018427387903 = x := ⟨_, rfl⟩
      obtain ⟨M2, hM2⟩ : ∃ x, min l2 4611686018427387903 = x := ⟨_, rfl⟩
      obtain ⟨M3, hM3⟩ : ∃ x, min l3 4611686018427387903 = x := ⟨_, rfl⟩
      obtain ⟨M4, hM4⟩ : ∃ x, min l4 4611686018427387903 = x := ⟨_, rfl⟩
      obtain ⟨M5, hM5⟩ : ∃ x, min l5 4611686018427387903 = x := ⟨_, rfl⟩
      have eM : [l0, l1, l2, l3, l4, l5].map (min · 4611686018427387903) = [M0, M1, M2, M3, M4, M5] := by simp [hM0, hM1, hM2, hM3, hM4, hM5]
      rw [eM] at hM6 hN6
      have Hrg2 := Lib.hid (show y6.rangeAt k7 0 (U6 [M0, M1, M2, M3, M4, M5]) from hN6.rng)
      have v0 : y6.cell? ⟨k, 0, none⟩ = some (.int .u64 (M0 : Int)) := hM6.at_ 0 (by simp)
      have v1 : y6.cell? ⟨k, 1, none⟩ = some (.int .u64 (M1 : Int)) := hM6.at_ 1 (by simp)
      have v2 : y6.cell? ⟨k, 2, none⟩ = some (.int .u64 (M2 : Int)) := hM6.at_ 2 (by simp)
      have v3 : y6.cell? ⟨k, 3, none⟩ = some (.int .u64 (M3 : Int)) := hM6.at_ 3 (by simp)
      have v4 : y6.cell? ⟨k, 4, none⟩ = some (.int .u64 (M4 : Int)) := hM6.at_ 4 (by simp)
      have v5 : y6.cell? ⟨k, 5, none⟩ = some (.int .u64 (M5 : Int)) := hM6.at_ 5 (by simp)
      clear hM6 hN6 hz6 hg6 B6 B5 P4 hrp hk7 eM hM0 hM1 hM2 hM3 hM4 hM5 HM HPi HI HB Hpb Hrg
      go_wp2_with (refine L_loadG rfl _ _ rfl _ _ rfl _ _ Hrg2.out Tryd.underlying60 rfl iParams ?_; rw [U6_app M0])
      go_ret
      exact ⟨rfl, HB6.out⟩
    · have hlt : i < 6 := by omega
      have u1 := hA.at_ i (by rw [minI_len]; exact hlt)
      rw [minI_get [l0, l1, l2, l3, l4, l5] i (Nat.le_refl _)] at u1
      obtain ⟨v, hvv⟩ : ∃ x, [l0, l1, l2, l3, l4, l5].getD i 0 = x := ⟨_, rfl⟩
      obtain ⟨m, hm⟩ : ∃ x, min v 4611686018427387903 = x := ⟨_, rfl⟩
      rw [hvv] at u1
      have hmin : min (v : Int) 4611686018427387903 = (m : Int) := by omega
      have f1 := hA.fr i
      have hwr : IntKind.i64.wrap ((i : Int) + 1) = (i : Int) + 1 := IntWalk.i64_in _ (by omega)
      have HM := Lib.hid (And.intro hvv hm)
      clear hA hP hI hB hvv hm
      go_wp2
      have hg := grownBy_setCell wr ⟨k, i, none⟩ (.int .u64 (m : Int))
      have e1 : minI [l0, l1, l2, l3, l4, l5] (i + 1) = (minI [l0, l1, l2, l3, l4, l5] i).set i m := by rw [minI, HM.out.1, HM.out.2]
      exact ⟨⟨i + 1, by omega, by simp, by rw [e1]; exact HAi.out.set i m, HPi.out.keep (hg.block _ HPi.out.lt (fun he => by injection he with he; have he : k5 = k := he; have := Hkk.out; omega)), fun j hj => (World.cell?_of_block (w := wr) (a := ⟨0, j, none⟩) (hg.block _ HI.out.lt (fun he => by injection he with he; have he : 0 = k := he; have := Hgk.out; omega))).trans (HI.out j hj), HB.out.grown hg HB.out.size (fun j hj => by cases hj; show W.heap.size ≤ k; rw [Hk.out]; exact Nat.le_refl _)⟩, by simp; omega⟩
end Go.Proofs.YtkhcpnmbhbhcgaaDoor
