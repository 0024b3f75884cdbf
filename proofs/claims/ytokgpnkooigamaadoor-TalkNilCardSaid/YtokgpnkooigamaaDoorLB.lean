/- talk: Hear of each Setup; what TalkSetups prepares. -/
import Derived.Test.YtokgpnkooigamaaDoorLA
set_option maxRecDepth 100000
set_option linter.unusedVariables false
namespace Go.Proofs.YtokgpnkooigamaaDoor
open Go.RowKit
section
variable {w : World} {base g : Nat} {S : SS} {A : SL} {m : MG} {s : ML}
theorem nochange {c : Nat} {e : Ending} {w1 w' : World} (h1 : SZ w1 base g S A) (hh : e = .returned (.int .u64 (c : Int)) ∧ Below w1.heap.size w1 w') : e = .returned (.int .u64 (c : Int)) ∧ ∃ A', SZ w' base g S A' ∧ SK w1 g A w' A' := ⟨hh.1, A, h1.bel hh.2, SK.bel hh.2⟩
theorem Hear_wrong (h : SZ w base g S A) (hm : MR w m s) (hK : KA w) (hB : base ≤ w.heap.size) (hc : S.code = 0) (hl : S.their.length ≤ 1048576) (ho : S.out.length ≤ 1048576) (hr : rightM m = false) :
    Calls Tryd.prog 9 #[.pointer (some ⟨g, 0, none⟩), .agg (mgc m s).toArray] w fun e w' => e = .returned (.int .u64 ((3 : Nat) : Int)) ∧ ∃ A', SZ w' base g { S with code := 3 } A' ∧ SK w g A w' A' :=
  Hear_go h hm hK hB hc fun w1 s1 h1 m1 k1 b1 => (hear_wrong h1 m1 k1 hl ho b1 hr).mono fun e w' hh => nochange (c := 3) h1 hh
theorem Hear_twice (h : SZ w base g S A) (hm : MR w m s) (hK : KA w) (hB : base ≤ w.heap.size) (hc : S.code = 0) (hl : S.their.length ≤ 1048576) (ho : S.out.length ≤ 1048576) (hr : rightM m = true) (hs : setupB S m = true) (hd : S.heard = true) :
    Calls Tryd.prog 9 #[.pointer (some ⟨g, 0, none⟩), .agg (mgc m s).toArray] w fun e w' => e = .returned (.int .u64 ((3 : Nat) : Int)) ∧ ∃ A', SZ w' base g { S with code := 3 } A' ∧ SK w g A w' A' :=
  Hear_go h hm hK hB hc fun w1 s1 h1 m1 k1 b1 => (hear_twice_true h1 m1 k1 hl ho b1 hr hs hd).mono fun e w' hh => nochange (c := 3) h1 hh
theorem Hear_v32 (h : SZ w base g S A) (hm : MR w m s) (hK : KA w) (hB : base ≤ w.heap.size) (hc : S.code = 0) (hl : S.their.length ≤ 1048576) (ho : S.out.length ≤ 1048576) (hr : rightM m = true) (hd : S.heard = false) (hk : m.kind = 32) (hsrv : S.srv = true) (hv : m.vers.contains 1 = false) :
    Calls Tryd.prog 9 #[.pointer (some ⟨g, 0, none⟩), .agg (mgc m s).toArray] w fun e w' => e = .returned (.int .u64 ((21 : Nat) : Int)) ∧ ∃ A', SZ w' base g { S with code := 21 } A' ∧ SK w g A w' A' :=
  Hear_go h hm hK hB hc fun w1 s1 h1 m1 k1 b1 => (hear_v32 h1 m1 k1 hl ho b1 hr (by simp [setupB, hk, hsrv]) hd hk hv).mono fun e w' hh => nochange (c := 21) h1 hh
theorem Hear_v33 (h : SZ w base g S A) (hm : MR w m s) (hK : KA w) (hB : base ≤ w.heap.size) (hc : S.code = 0) (hl : S.their.length ≤ 1048576) (ho : S.out.length ≤ 1048576) (hr : rightM m = true) (hd : S.heard = false) (hk : m.kind = 33) (hsrv : S.srv = false) (hv : m.ver ≠ 1) :
    Calls Tryd.prog 9 #[.pointer (some ⟨g, 0, none⟩), .agg (mgc m s).toArray] w fun e w' => e = .returned (.int .u64 ((21 : Nat) : Int)) ∧ ∃ A', SZ w' base g { S with code := 21 } A' ∧ SK w g A w' A' :=
  Hear_go h hm hK hB hc fun w1 s1 h1 m1 k1 b1 => (hear_v33 h1 m1 k1 hl ho b1 hr (by simp [setupB, hk, hsrv]) hd hk hv).mono fun e w' hh => nochange (c := 21) h1 hh
theorem Hear_s33 (h : SZ w base g S A) (hm : MR w m s) (hK : KA w) (hB : base ≤ w.heap.size) (hc : S.code = 0) (hl : S.their.length ≤ 1048576) (ho : S.out.length ≤ 1048576) (hr : rightM m = true) (hd : S.heard = false) (hk : m.kind = 33) (hsrv : S.srv = false) (hv : m.ver = 1) :
    Calls Tryd.prog 9 #[.pointer (some ⟨g, 0, none⟩), .agg (mgc m s).toArray] w fun e w' => e = .returned (.int .u64 ((0 : Nat) : Int)) ∧ ∃ A', SZ w' base g { S with heard := true, ol := min m.n 1152921504606846976, code := 0 } A' ∧ SK w g A w' A' :=
  Hear_go h hm hK hB hc fun w1 s1 h1 m1 k1 b1 => hear_s33 h1 m1 k1 hl ho b1 hr (by simp [setupB, hk, hsrv]) hd hk hsrv hv
end
theorem minI (W : World) (ts : Array TypeId) (t : TypeId) (a b : Nat) : (Builtin.min_ ts t #[.int .i64 (a : Int), .int .i64 (b : Int)]).run Tryd.prog W = .ok (.int .i64 ((min a b : Nat) : Int)) W := by
  have : (Builtin.min_ ts t #[.int .i64 (a : Int), .int .i64 (b : Int)]).run Tryd.prog W = .ok (.int .i64 (if (b : Int) < (a : Int) then (b : Int) else (a : Int))) W := by
    simp [Builtin.min_, Builtin.min2]
  rw [this]
  congr 2
  split <;> omega
theorem L_minI {w : World} {ops : Array Oper} {rest : List Oper} {o : Oper} {f : Act} {Q : Exit → Act → World → Prop} {ts : Array TypeId} {x : Operand} {c : Int} (hop : o.op = .call { callee := .builtin .min, args := #[x, .const (.int .i64 c)], argTypes := ts }) (a b X : Nat) (hX : min a b = X) (hc : c = (b : Int)) (e1 : f.eval x = .int .i64 (a : Int)) (hg : Region.wanted o (yielded ops f.tmps) = true)
    (h : wpList Tryd.prog ops Q rest (f.put o.dst (.int .i64 (X : Int))) w) : wpList Tryd.prog ops Q (o :: rest) f w := by
  subst hc
  refine wpList_on hg fun K hK => ?_
  have e2 : f.eval (.const (.int .i64 (b : Int))) = .int .i64 (b : Int) := rfl
  unfold Oper.wp
  simp only [execOp, hop, resolve, invoke, builtin, Sem.run_bind, Sem.run_pure, Result.andThen_ok, List.map_toArray, List.map_cons, List.map_nil, e1, e2, minI]
  rw [hX]
  exact hK _ _ h
/-- the first i of them by the rest of five -/
def modI (xs : List Nat) (i : Nat) : List Nat := (xs.take i).map (· % 5) ++ xs.drop i
theorem modI_len (xs : List Nat) (i : Nat) : (modI xs i).length = xs.length := by
  simp [modI]; omega
theorem modI_get {xs : List Nat} {i x : Nat} (h : xs[i]? = some x) : (modI xs i)[i]? = some x := by
  have hl := (List.getElem?_eq_some_iff.1 h).1
  unfold modI
  rw [List.getElem?_append_right (by simp; omega)]
  simp only [List.length_map, List.length_take, Nat.min_eq_left (Nat.le_of_lt hl), Nat.sub_self, List.getElem?_drop, Nat.add_zero]
  exact h
theorem modI_set {xs : List Nat} {i x : Nat} (h : xs[i]? = some x) : (modI xs i).set i (x % 5) = modI xs (i + 1) := by
  obtain ⟨hl, he⟩ := List.getElem?_eq_some_iff.1 h
  unfold modI
  rw [List.set_append_right _ _ (by simp; omega)]
  simp only [List.length_map, List.length_take, Nat.min_eq_left (Nat.le_of_lt hl), Nat.sub_self]
  rw [List.drop_eq_getElem_cons hl, List.set_cons_zero, List.take_succ_eq_append_getElem hl, List.map_append, List.append_assoc, he]
  rfl
theorem modI_0 (xs : List Nat) : modI xs 0 = xs := by simp [modI]
theorem modI_all (xs : List Nat) (i : Nat) (h : xs.length ≤ i) : modI xs i = xs.map (· % 5) := by
  unfold modI; rw [List.take_of_length_le h, List.drop_of_length_le h, List.append_nil]
def anyI (xs : List Nat) (i : Nat) : Bool := (xs.take i).any (fun x => x % 5 == 1)
theorem anyI_step {xs : List Nat} {i x : Nat} (h : xs[i]? = some x) : anyI xs (i + 1) = (anyI xs i || (x % 5 == 1)) := by
  obtain ⟨hl, he⟩ := List.getElem?_eq_some_iff.1 h
  unfold anyI
  rw [List.take_succ_eq_append_getElem hl, List.any_append, he]
  simp
theorem anyI_all (xs : List Nat) (i : Nat) (h : xs.length ≤ i) : anyI xs i = (xs.map (· % 5)).contains 1 := by
  unfold anyI
  rw [List.take_of_length_le h]
  induction xs with
  | nil => rfl
  | cons x r ih =>
    rw [List.any_cons, List.map_cons, List.contains_cons]
    have : ((1 : Nat) == x % 5) = (x % 5 == 1) := by rw [Bool.beq_comm]
    rw [this]
    congr 1
    cases i with
    | zero => simp at h
    | succ j => exact ih (by simp at h; omega)
theorem rightM_of {m : MG} {p : Nat} (hp : partsS m.kind = some p) : rightM m = (emptyM (bareM p m) && decide (m.reason.length ≤ 64) && decide (maxM m ≤ 4611686018427387903) && okM p m) := by
  unfold rightM; rw [hp]
theorem right_33 (n v : Nat) (hn : n ≤ 4611686018427387903) (hv : v ≤ 4611686018427387903) : rightM (mNV 33 n v) = true := by
  have hp : partsS 33 = some 6144 := by decide
  rw [rightM_of (m := mNV 33 n v) hp]
  simp only [Bool.and_eq_true, decide_eq_true_eq]
  refine ⟨⟨⟨?_, ?_⟩, ?_⟩, ?_⟩
  · simp [emptyM, bareM, mNV, bit]
  · simp [mNV]
  · simp only [maxM, mNV]; omega
  · simp [okM, bit]
theorem maxI_le (xs : List Nat) (M : Nat) (h : ∀ x ∈ xs, x ≤ M) : ∀ n, maxI xs n ≤ M
  | 0 => Nat.zero_le _
  | n + 1 => by
    rw [maxI]
    have h1 := maxI_le xs M h n
    have h2 : xs.getD n 0 ≤ M := by
      rw [List.getD_eq_getElem?_getD]
      cases hx : xs[n]? with
      | none => exact Nat.zero_le _
      | some x => exact h x (List.mem_of_getElem? hx)
    omega
theorem right_32 (vs : List Nat) (n : Nat) (hn : n ≤ 4611686018427387903) (h0 : 0 < vs.length) (h8 : vs.length ≤ 8) (hv : ∀ x ∈ vs, x ≤ 4611686018427387903) : rightM (cliM vs n) = true := by
  have hp : partsS 32 = some 10240 := by decide
  rw [rightM_of (m := cliM vs n) hp]
  simp only [Bool.and_eq_true, decide_eq_true_eq]
  refine ⟨⟨⟨?_, ?_⟩, ?_⟩, ?_⟩
  · simp [emptyM, bareM, cliM, bit]
  · simp [cliM]
  · simp only [maxM, cliM]; omega
  · have hm := maxI_le vs _ hv vs.length
    simp [okM, bit, listB, cliM, h8, hm]
    first | exact h0 | exact ⟨h0, h8⟩ | exact ⟨h0, hm⟩ | (intro hh; rw [hh] at h0; simp at h0) | omega
theorem wrong_32 (n : Nat) : rightM (cliM [] n) = false := by
  have hp : partsS 32 = some 10240 := by decide
  rw [rightM_of (m := cliM [] n) hp]
  simp [okM, bit, listB, cliM]
end Go.Proofs.YtokgpnkooigamaaDoor
