/- slices.Contains of numbers; builtin min; talk.New. -/
import Derived.Test.YtokgpnkooigamaaDoorTT
set_option maxRecDepth 100000
set_option linter.unusedVariables false
namespace Go.Proofs.YtokgpnkooigamaaDoor
open Go.RowKit
/-- where a number stands -/
def idxU (v : Nat) : List Nat → Nat → Int
  | [], _ => -1
  | x :: r, j => if v = x then (j : Int) else idxU v r (j + 1)
theorem idxU_step {v : Nat} {xs : List Nat} {j : Nat} {x : Nat} (h : xs[j]? = some x) : idxU v (xs.drop j) j = if v = x then (j : Int) else idxU v (xs.drop (j + 1)) (j + 1) := by
  obtain ⟨hl, he⟩ := List.getElem?_eq_some_iff.1 h
  rw [List.drop_eq_getElem_cons hl, idxU, he]
theorem idxU_has (v : Nat) : ∀ (xs : List Nat) (j : Nat), (0 ≤ idxU v xs j ∧ xs.contains v = true) ∨ (idxU v xs j = -1 ∧ xs.contains v = false)
  | [], j => .inr ⟨rfl, rfl⟩
  | x :: r, j => by
    rw [idxU, List.contains_cons]
    by_cases h : v = x
    · exact .inl ⟨by rw [if_pos h]; omega, by simp [h]⟩
    · rw [if_neg h, show (v == x) = false by simpa using h, Bool.false_or]
      exact idxU_has v r (j + 1)
set_option maxHeartbeats 4000000 in
theorem uindex_any (w : World) {a : Option Addr} {n c : Nat} {xs : List Nat} (hx : RS w 1 a n c (US xs)) (hn : n ≤ 1099511627776) (v : Nat) :
    Calls Tryd.prog 41 #[.slice a n c, .int .u64 (v : Int)] w fun e w' => e = .returned (.int .i64 (idxU v xs 0)) ∧ w = w' := by
  have hl : xs.length = n := by have := hx.len; simpa [US] using this
  obtain ⟨R, hR⟩ : ∃ R, idxU v xs 0 = R := ⟨_, rfl⟩
  rw [hR]
  have HS := Lib.hid (show ∃ j : Nat, j ≤ n ∧ Value.int .i64 (0 : Int) = .int .i64 (j : Int) ∧ idxU v (xs.drop j) j = R ∧ w = w from ⟨0, by omega, rfl, hR, rfl⟩)
  have HX := Lib.hid hx
  clear hx hR
  go_enter Tryd.func41, Tryd.ntmps41
  go_wp2
  go_loopw [8] (fun s8 wr => ∃ j : Nat, j ≤ n ∧ s8 = .int .i64 (j : Int) ∧ idxU v (xs.drop j) j = R ∧ wr = w) (fun s8 _ => match s8 with | .int _ x => (n - x).toNat | _ => 0)
  case atStart =>
    obtain ⟨j, q1, q2, q3, _⟩ := HS.out
    exact ⟨j, q1, q2, q3, by first | rfl | trivial⟩
  case round =>
    clear HS
    obtain ⟨j, hj, rfl, hR, rfl⟩ := hrel
    have HR := Lib.hid hR
    clear hR
    by_cases hjn : j = n
    · subst hjn
      have HL := Lib.hid hl
      clear hl
      go_wp2
      go_ret
      exact ⟨by rw [← HR.out, List.drop_of_length_le (by have := HL.out; omega)]; rfl, rfl⟩
    · have hlt : j < n := by omega
      obtain ⟨x, hx⟩ : ∃ x, xs[j]? = some x := ⟨_, List.getElem?_eq_getElem (by omega)⟩
      have hst := idxU_step (v := v) hx
      rw [HR.out] at hst
      have HV := Lib.hid hx
      have hwr : IntKind.i64.wrap ((j : Int) + 1) = (j : Int) + 1 := IntWalk.i64_in _ (by omega)
      clear hx hjn hl
      by_cases hvx : v = x
      · rw [if_pos hvx] at hst
        have Hst := Lib.hid hst
        have qv : ((v : Int) == (x : Int)) = true := by simp; omega
        clear hst hvx
        go_wp2_with ((with_reducible refine gate_ix ?_); refine L_index t64 HX.out _ _ rfl rfl .i64 _ rfl rfl (by omega) (by omega) _ (by rw [Int.toNat_natCast]; exact US_get HV.out) ?_; intro q hq)
        go_ret
        exact ⟨by rw [Hst.out]; rfl, rfl⟩
      · rw [if_neg hvx] at hst
        have Hst := Lib.hid hst
        have qv : ((v : Int) == (x : Int)) = false := by simp; omega
        clear hst hvx
        go_wp2_with ((with_reducible refine gate_ix ?_); refine L_index t64 HX.out _ _ rfl rfl .i64 _ rfl rfl (by omega) (by omega) _ (by rw [Int.toNat_natCast]; exact US_get HV.out) ?_; intro q hq)
        exact ⟨⟨j + 1, by omega, by simp, Hst.out.symm, by first | rfl | trivial⟩, by simp; omega⟩
set_option maxHeartbeats 4000000 in
theorem ucontains_any (w : World) {a : Option Addr} {n c : Nat} {xs : List Nat} (hx : RS w 1 a n c (US xs)) (hn : n ≤ 1099511627776) (v : Nat) :
    Calls Tryd.prog 31 #[.slice a n c, .int .u64 (v : Int)] w fun e w' => e = .returned (.bool (xs.contains v)) ∧ w = w' := by
  have hi := uindex_any w hx hn v
  obtain ⟨R, hR⟩ : ∃ R, idxU v xs 0 = R := ⟨_, rfl⟩
  obtain ⟨Q, hQ⟩ : ∃ Q, xs.contains v = Q := ⟨_, rfl⟩
  have hc := idxU_has v xs 0
  rw [hR, hQ] at hc
  rw [hR] at hi
  rw [hQ]
  have HI := Lib.hid hi
  clear hi hR hQ hx
  rcases hc with ⟨h1, rfl⟩ | ⟨rfl, rfl⟩
  · have hp : decide ((0 : Int) ≤ R) = true := decide_eq_true h1
    clear h1
    go_enter Tryd.func31, Tryd.ntmps31
    go_wp2_with (go_at_call 41; refine HI.out.mono ?_; rintro y w2 ⟨rfl, rfl⟩)
    go_ret
    exact ⟨ret_bool (by first | exact hp | simp), rfl⟩
  · go_enter Tryd.func31, Tryd.ntmps31
    go_wp2_with (go_at_call 41; refine HI.out.mono ?_; rintro y w2 ⟨rfl, rfl⟩)
    go_ret
    exact ⟨rfl, rfl⟩
theorem min2 (W : World) (ts : Array TypeId) (t : TypeId) (a b : Nat) : (Builtin.min_ ts t #[.int .u64 (a : Int), .int .u64 (b : Int)]).run Tryd.prog W = .ok (.int .u64 ((min a b : Nat) : Int)) W := by
  have : (Builtin.min_ ts t #[.int .u64 (a : Int), .int .u64 (b : Int)]).run Tryd.prog W = .ok (.int .u64 (if (b : Int) < (a : Int) then (b : Int) else (a : Int))) W := by
    simp [Builtin.min_, Builtin.min2]
  rw [this]
  congr 2
  split <;> omega
/-- builtin min of a number and the most that may be -/
theorem L_min {w : World} {ops : Array Oper} {rest : List Oper} {o : Oper} {f : Act} {Q : Exit → Act → World → Prop} {ts : Array TypeId} {x : Operand} {c : Int} (hop : o.op = .call { callee := .builtin .min, args := #[x, .const (.int .u64 c)], argTypes := ts }) (a b X : Nat) (hX : min a b = X) (hc : c = (b : Int)) (e1 : f.eval x = .int .u64 (a : Int)) (hg : Region.wanted o (yielded ops f.tmps) = true)
    (h : wpList Tryd.prog ops Q rest (f.put o.dst (.int .u64 (X : Int))) w) : wpList Tryd.prog ops Q (o :: rest) f w := by
  subst hc
  refine wpList_on hg fun K hK => ?_
  have e2 : f.eval (.const (.int .u64 (b : Int))) = .int .u64 (b : Int) := rfl
  unfold Oper.wp
  simp only [execOp, hop, resolve, invoke, builtin, Sem.run_bind, Sem.run_pure, Result.andThen_ok, List.map_toArray, List.map_cons, List.map_nil, e1, e2, min2]
  rw [hX]
  exact hK _ _ h
/-- a session at its beginning -/
def newS (srv : Bool) (lets : Nat) : SS := ⟨srv, [], 0, [], min lets 1152921504606846976, if srv then [] else [⟨32, 0, 0, [], 0, 0, 0, 0, 0, 0, false, 0, [], min lets 1152921504606846976, 0, [1]⟩], false, 0⟩
set_option maxHeartbeats 4000000 in
theorem new_srv (w : World) (lets : Nat) :
    Calls Tryd.prog 8 #[.bool true, .int .u64 (lets : Int)] w fun e w' => e = .returned (.pointer (some ⟨w.heap.size, 0, none⟩)) ∧ SZ w' w.heap.size w.heap.size (newS true lets) ⟨SA0, SA0, SA0, [], [], []⟩ ∧ Below w.heap.size w w' := by
  obtain ⟨X, hX⟩ : ∃ X, min lets 1152921504606846976 = X := ⟨_, rfl⟩
  have hz : SZ (w.alloc (.cells #[.bool true, .slice none 0 0, .int .u64 0, .slice none 0 0, .int .u64 (X : Int), .slice none 0 0, .bool false, .int .u64 0] 58)) w.heap.size w.heap.size (newS true lets) ⟨SA0, SA0, SA0, [], [], []⟩ := by
    unfold newS
    rw [hX]
    exact ⟨Nat.le_refl _, CR.new w _ [.bool true, .slice none 0 0, .int .u64 0, .slice none 0 0, .int .u64 (X : Int), .slice none 0 0, .bool false, .int .u64 0], AO.nil _ _, AO.nil _ _, QO.nil _ _, fun x y h => by cases h⟩
  have HZ := Lib.hid hz
  have HX := Lib.hid hX
  clear hz hX
  go_enter Tryd.func8, Tryd.ntmps8
  go_wp2_with (refine L_min rfl lets 1152921504606846976 X HX.out rfl rfl (by rfl) ?_)
  go_ret
  exact ⟨rfl, HZ.out, below_alloc w _⟩
set_option maxHeartbeats 4000000 in
theorem new_cli (w : World) (lets : Nat) :
    Calls Tryd.prog 8 #[.bool false, .int .u64 (lets : Int)] w fun e w' => e = .returned (.pointer (some ⟨w.heap.size, 0, none⟩)) ∧ (∃ A, SZ w' w.heap.size w.heap.size (newS false lets) A) ∧ Below w.heap.size w w' := by
  obtain ⟨X, hX⟩ : ∃ X, min lets 1152921504606846976 = X := ⟨_, rfl⟩
  have hXb : X < 18446744073709551616 := by omega
  have HXB := Lib.hid hXb
  have hz : SZ (w.alloc (.cells #[.bool false, .slice none 0 0, .int .u64 0, .slice none 0 0, .int .u64 (X : Int), .slice none 0 0, .bool false, .int .u64 0] 58)) w.heap.size w.heap.size ⟨false, [], 0, [], X, [], false, 0⟩ ⟨SA0, SA0, SA0, [], [], []⟩ :=
    ⟨Nat.le_refl _, CR.new w _ [.bool false, .slice none 0 0, .int .u64 0, .slice none 0 0, .int .u64 (X : Int), .slice none 0 0, .bool false, .int .u64 0], AO.nil _ _, AO.nil _ _, QO.nil _ _, fun x y h => by cases h⟩
  have hS : newS false lets = { (⟨false, [], 0, [], X, [], false, 0⟩ : SS) with out := [] ++ [⟨32, 0, 0, [], 0, 0, 0, 0, 0, 0, false, 0, [], X, 0, [1]⟩] } := by unfold newS; rw [hX]; rfl
  rw [hS]
  obtain ⟨g, hg⟩ : ∃ g, w.heap.size = g := ⟨_, rfl⟩
  obtain ⟨w1, hw1⟩ : ∃ x, w.alloc (.cells #[.bool false, .slice none 0 0, .int .u64 0, .slice none 0 0, .int .u64 (X : Int), .slice none 0 0, .bool false, .int .u64 0] 58) = x := ⟨_, rfl⟩
  have hb := below_alloc w (.cells #[.bool false, .slice none 0 0, .int .u64 0, .slice none 0 0, .int .u64 (X : Int), .slice none 0 0, .bool false, .int .u64 0] 58)
  rw [hw1] at hz hb
  rw [hg] at hz hb ⊢
  have hb2 := below_alloc w1 (.cells #[.int .u64 1] 23)
  have hz2 := hz.bel hb2
  have hv := OW_made w1 w1.heap.size 23 1 #[.int .u64 1] 1 (Nat.le_refl _) rfl (by unfold maxLen; omega) (by simp [Value.oneCell'])
  have g4 : w1.cell? ⟨g, 4, none⟩ = some (.int .u64 (X : Int)) := hz.row.at_ 4
  have g4b : (w1.alloc (.cells #[.int .u64 1] 23)).cell? ⟨g, 4, none⟩ = some (.int .u64 (X : Int)) := hz2.row.at_ 4
  have hgw : g ≤ w1.heap.size := by have := hb.size; omega
  have hm : MO (w1.alloc (.cells #[.int .u64 1] 23)) g ⟨32, 0, 0, [], 0, 0, 0, 0, 0, 0, false, 0, [], X, 0, [1]⟩ ⟨SA0, SA0, ⟨some ⟨w1.heap.size, 0, none⟩, 1, 1⟩⟩ :=
    ⟨⟨by simp, by simp, by simp, by simp, by simp, by simp, by simp, by simp, by simp, by simp, hXb, by simp⟩, OW_nil _ _ _ _, OW_nil _ _ _ _, hv.mono hgw, by simp [SA0], by simp [SA0], by simp⟩
  obtain ⟨vb, hvb⟩ : ∃ vb, w1.heap.size = vb := ⟨_, rfl⟩
  obtain ⟨w2, hw2⟩ : ∃ x, w1.alloc (.cells #[.int .u64 1] 23) = x := ⟨_, rfl⟩
  rw [hvb, hw2] at hm
  rw [hw2] at hz2 g4b hb2
  have hmc : mgc ⟨32, 0, 0, [], 0, 0, 0, 0, 0, 0, false, 0, [], X, 0, [1]⟩ ⟨SA0, SA0, ⟨some ⟨vb, 0, none⟩, 1, 1⟩⟩ = [.int .u64 32, .int .u64 0, .int .u64 0, .slice none 0 0, .int .u8 0, .int .u8 0, .int .u64 0, .int .u64 0, .int .u64 0, .int .u64 0, .bool false, .int .u64 0, .slice none 0 0, .int .u64 (X : Int), .int .u64 0, .slice (some ⟨vb, 0, none⟩) 1 1] := by
    simp [mgc, SA0, SA.v, u64]
  have hO := OW_made w2 g 31 16 (mgc ⟨32, 0, 0, [], 0, 0, 0, 0, 0, 0, false, 0, [], X, 0, [1]⟩ ⟨SA0, SA0, ⟨some ⟨vb, 0, none⟩, 1, 1⟩⟩).toArray 1 (Nat.le_trans hgw (by rw [← hw2]; simp)) rfl (by unfold maxLen; omega) (by simpa using mgc_one ⟨32, 0, 0, [], 0, 0, 0, 0, 0, 0, false, 0, [], X, 0, [1]⟩ ⟨SA0, SA0, ⟨some ⟨vb, 0, none⟩, 1, 1⟩⟩)
  have hap := hz2.app_out hm (a2 := some ⟨w2.heap.size, 0, none⟩) (c2 := 1) hO (grown_of_below (below_alloc w2 _)) (fun ad had => .inr (by cases had; exact Nat.le_refl _))
  rw [hmc] at hap
  have q5 : (w2.alloc (.cells [.int .u64 32, .int .u64 0, .int .u64 0, .slice none 0 0, .int .u8 0, .int .u8 0, .int .u64 0, .int .u64 0, .int .u64 0, .int .u64 0, .bool false, .int .u64 0, .slice none 0 0, .int .u64 (X : Int), .int .u64 0, .slice (some ⟨vb, 0, none⟩) 1 1].toArray 31)).cell? ⟨g, 5, none⟩ = some (.slice none 0 0) := hap.1.at_ 5
  have f5 : w2.frozen? ⟨g, 5, none⟩ = false := hz2.row.fr 5
  have f5a : (w2.alloc (.cells [.int .u64 32, .int .u64 0, .int .u64 0, .slice none 0 0, .int .u8 0, .int .u8 0, .int .u64 0, .int .u64 0, .int .u64 0, .int .u64 0, .bool false, .int .u64 0, .slice none 0 0, .int .u64 (X : Int), .int .u64 0, .slice (some ⟨vb, 0, none⟩) 1 1].toArray 31)).frozen? ⟨g, 5, none⟩ = false := hap.1.fr 5
  have HA := Lib.hid hap.2.1
  have HSK := Lib.hid (hap.2.2.below hz2 (Nat.le_trans hgw hb2.size))
  have HX := Lib.hid hX
  have HBB := Lib.hid (hb.trans (hb2.mono hgw))
  clear hz hX hS hb hb2 hz2 hv hm hmc hO hap hXb hgw
  go_enter Tryd.func8, Tryd.ntmps8
  go_wp2_with (refine L_min rfl lets 1152921504606846976 X HX.out rfl rfl (by rfl) ?_)
  go_ret
  exact ⟨rfl, ⟨_, HA.out⟩, HBB.out.trans HSK.out⟩
end Go.Proofs.YtokgpnkooigamaaDoor
