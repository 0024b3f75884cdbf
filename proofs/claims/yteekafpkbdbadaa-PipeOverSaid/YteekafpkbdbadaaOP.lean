/- frame: right, join, stream, Bytes for the kinds that pipe hears. -/
import Derived.Test.YteekafpkbdbadaaOQ
set_option maxRecDepth 100000
set_option linter.unusedVariables false
namespace Go.Proofs.Yteekafpkbdbadaa.Pi
open Go.RowKit
def mx (x y : Int) : Int := if y > x then y else x
theorem mx_nat (a b : Nat) : mx (a : Int) (b : Int) = ((max a b : Nat) : Int) := by
  unfold mx
  split <;> omega
theorem max4i (W : World) (ts : Array TypeId) (t : TypeId) (a b c d : Int) : (Builtin.max_ ts t #[.int .u64 a, .int .u64 b, .int .u64 c, .int .u64 d]).run Try.prog W = .ok (.int .u64 (mx (mx (mx a b) c) d)) W := by
  unfold mx
  simp [Builtin.max_, Builtin.max2]
theorem L_max4 {w : World} {ops : Array Oper} {rest : List Oper} {o : Oper} {f : Act} {Q : Exit → Act → World → Prop} {ts : Array TypeId} {x1 x2 x3 x4 : Operand} (hop : o.op = .call { callee := .builtin .max, args := #[x1, x2, x3, x4], argTypes := ts }) (hg : Region.wanted o (yielded ops f.tmps) = true) (a b c d X : Int)
    (e1 : f.eval x1 = .int .u64 a) (e2 : f.eval x2 = .int .u64 b) (e3 : f.eval x3 = .int .u64 c) (e4 : f.eval x4 = .int .u64 d)
    (hX : mx (mx (mx a b) c) d = X) (h : wpList Try.prog ops Q rest (f.put o.dst (.int .u64 X)) w) : wpList Try.prog ops Q (o :: rest) f w := by
  refine wpList_on hg fun K hK => ?_
  unfold Oper.wp
  simp only [execOp, hop, resolve, invoke, builtin, Sem.run_bind, Sem.run_pure, Result.andThen_ok, List.map_toArray, List.map_cons, List.map_nil, e1, e2, e3, e4, max4i]
  rw [hX]
  exact hK _ _ h
theorem right_16 (w : World) (n : Nat) (hn : n ≤ 4611686018427387903) : Calls Try.prog 54 #[.agg (frc 16 0 0 n 0 false SA0 SA0 SA0).toArray] w fun e w' => e = .returned (.bool true) ∧ Below w.heap.size w w' := by
  obtain ⟨g, hg⟩ : ∃ k, w.heap.size = k := ⟨_, rfl⟩
  have hA := CR.new w 37 (frc 16 0 0 n 0 false SA0 SA0 SA0)
  have hb := below_alloc w (.cells (frc 16 0 0 n 0 false SA0 SA0 SA0).toArray 37)
  have HS := Lib.hid (fun (x : World) => clear_16 x n)
  unfold frc SA0 at hA hb HS
  unfold frc SA0
  obtain ⟨W1, hW1⟩ : ∃ x, w.alloc (.cells ([.int .u64 16, .int .u64 0, .int .u64 0, .int .u64 (n : Int), .int .u64 0, .bool false, .slice none 0 0, .slice none 0 0, .slice none 0 0] : List Value).toArray 37) = x := ⟨_, rfl⟩
  rw [hW1, hg] at hA
  rw [hW1] at hb
  have HA := Lib.hid hA
  have HB := Lib.hid hb
  have Hg := Lib.hid (show w.heap.size ≤ g from Nat.le_of_eq hg)
  have HM := Lib.hid (show mx (mx (mx 0 0) (n : Int)) 0 = (n : Int) by have a := mx_nat 0 0; have b := mx_nat 0 n; have c := mx_nat n 0; rw [show ((0 : Nat) : Int) = 0 from rfl] at a b c; rw [a, show ((max 0 0 : Nat) : Int) = 0 from rfl, b, show max 0 n = n by omega, c, show max n 0 = n by omega])
  have q1 : decide ((n : Int) ≤ 4611686018427387903) = true := decide_eq_true (by omega)
  have q2 : decide ((4611686018427387903 : Int) < (n : Int)) = false := decide_eq_false (by omega)
  have q3 : decide (4611686018427387903 < n) = false := decide_eq_false (by omega)
  have q4 : decide ((n : Int) ≤ 4611686018427387903) = true := decide_eq_true (by omega)
  have q5 : decide (n ≤ 4611686018427387903) = true := decide_eq_true hn
  clear hA hb hn
  go_enter Try.func54, Try.ntmps54
  go_wp2_with (first
    | (refine L_loadG 37 _ rfl (by rfl) _ _ rfl _ _ HA.out.rng Try.underlying37 rfl iFr ?_)
    | (go_at_call 72; refine (HS.out W1).mono ?_; rintro e w2 ⟨rfl, B2⟩
       have HC2 := Lib.hid (HA.out.bel B2)
       have HB2 := Lib.hid (HB.out.trans (B2.mono HB.out.size))
       have c0 : w2.cell? ⟨g, 0, none⟩ = some (.int .u64 16) := HC2.out.at_ 0
       have c1 : w2.cell? ⟨g, 1, none⟩ = some (.int .u64 0) := HC2.out.at_ 1
       have c2 : w2.cell? ⟨g, 2, none⟩ = some (.int .u64 0) := HC2.out.at_ 2
       have c3 : w2.cell? ⟨g, 3, none⟩ = some (.int .u64 (n : Int)) := HC2.out.at_ 3
       have c4 : w2.cell? ⟨g, 4, none⟩ = some (.int .u64 0) := HC2.out.at_ 4
       clear B2)
    | (refine L_max4 rfl (by rfl) _ _ _ _ _ rfl rfl rfl rfl HM.out ?_))
  go_ret
  exact ⟨rfl, HB2.out⟩
theorem right_18 (w : World) (n : Nat) (hn : n ≤ 1152921504606846976) : Calls Try.prog 54 #[.agg (frc 18 0 0 n 0 false SA0 SA0 SA0).toArray] w fun e w' => e = .returned (.bool true) ∧ Below w.heap.size w w' := by
  obtain ⟨g, hg⟩ : ∃ k, w.heap.size = k := ⟨_, rfl⟩
  have hA := CR.new w 37 (frc 18 0 0 n 0 false SA0 SA0 SA0)
  have hb := below_alloc w (.cells (frc 18 0 0 n 0 false SA0 SA0 SA0).toArray 37)
  have HS := Lib.hid (fun (x : World) => clear_18 x n)
  unfold frc SA0 at hA hb HS
  unfold frc SA0
  obtain ⟨W1, hW1⟩ : ∃ x, w.alloc (.cells ([.int .u64 18, .int .u64 0, .int .u64 0, .int .u64 (n : Int), .int .u64 0, .bool false, .slice none 0 0, .slice none 0 0, .slice none 0 0] : List Value).toArray 37) = x := ⟨_, rfl⟩
  rw [hW1, hg] at hA
  rw [hW1] at hb
  have HA := Lib.hid hA
  have HB := Lib.hid hb
  have Hg := Lib.hid (show w.heap.size ≤ g from Nat.le_of_eq hg)
  have HM := Lib.hid (show mx (mx (mx 0 0) (n : Int)) 0 = (n : Int) by have a := mx_nat 0 0; have b := mx_nat 0 n; have c := mx_nat n 0; rw [show ((0 : Nat) : Int) = 0 from rfl] at a b c; rw [a, show ((max 0 0 : Nat) : Int) = 0 from rfl, b, show max 0 n = n by omega, c, show max n 0 = n by omega])
  have q1 : decide ((n : Int) ≤ 4611686018427387903) = true := decide_eq_true (by omega)
  have q2 : decide ((4611686018427387903 : Int) < (n : Int)) = false := decide_eq_false (by omega)
  have q3 : decide (4611686018427387903 < n) = false := decide_eq_false (by omega)
  have q4 : decide ((n : Int) ≤ 1152921504606846976) = true := decide_eq_true (by omega)
  have q5 : decide (n ≤ 1152921504606846976) = true := decide_eq_true hn
  clear hA hb hn
  go_enter Try.func54, Try.ntmps54
  go_wp2_with (first
    | (refine L_loadG 37 _ rfl (by rfl) _ _ rfl _ _ HA.out.rng Try.underlying37 rfl iFr ?_)
    | (go_at_call 72; refine (HS.out W1).mono ?_; rintro e w2 ⟨rfl, B2⟩
       have HC2 := Lib.hid (HA.out.bel B2)
       have HB2 := Lib.hid (HB.out.trans (B2.mono HB.out.size))
       have c0 : w2.cell? ⟨g, 0, none⟩ = some (.int .u64 18) := HC2.out.at_ 0
       have c1 : w2.cell? ⟨g, 1, none⟩ = some (.int .u64 0) := HC2.out.at_ 1
       have c2 : w2.cell? ⟨g, 2, none⟩ = some (.int .u64 0) := HC2.out.at_ 2
       have c3 : w2.cell? ⟨g, 3, none⟩ = some (.int .u64 (n : Int)) := HC2.out.at_ 3
       have c4 : w2.cell? ⟨g, 4, none⟩ = some (.int .u64 0) := HC2.out.at_ 4
       clear B2)
    | (refine L_max4 rfl (by rfl) _ _ _ _ _ rfl rfl rfl rfl HM.out ?_))
  go_ret
  exact ⟨rfl, HB2.out⟩
theorem right_19 (w : World) (n : Nat) (hn : n ≤ 1152921504606846976) : Calls Try.prog 54 #[.agg (frc 19 0 0 n 0 false SA0 SA0 SA0).toArray] w fun e w' => e = .returned (.bool true) ∧ Below w.heap.size w w' := by
  obtain ⟨g, hg⟩ : ∃ k, w.heap.size = k := ⟨_, rfl⟩
  have hA := CR.new w 37 (frc 19 0 0 n 0 false SA0 SA0 SA0)
  have hb := below_alloc w (.cells (frc 19 0 0 n 0 false SA0 SA0 SA0).toArray 37)
  have HS := Lib.hid (fun (x : World) => clear_19 x n)
  unfold frc SA0 at hA hb HS
  unfold frc SA0
  obtain ⟨W1, hW1⟩ : ∃ x, w.alloc (.cells ([.int .u64 19, .int .u64 0, .int .u64 0, .int .u64 (n : Int), .int .u64 0, .bool false, .slice none 0 0, .slice none 0 0, .slice none 0 0] : List Value).toArray 37) = x := ⟨_, rfl⟩
  rw [hW1, hg] at hA
  rw [hW1] at hb
  have HA := Lib.hid hA
  have HB := Lib.hid hb
  have Hg := Lib.hid (show w.heap.size ≤ g from Nat.le_of_eq hg)
  have HM := Lib.hid (show mx (mx (mx 0 0) (n : Int)) 0 = (n : Int) by have a := mx_nat 0 0; have b := mx_nat 0 n; have c := mx_nat n 0; rw [show ((0 : Nat) : Int) = 0 from rfl] at a b c; rw [a, show ((max 0 0 : Nat) : Int) = 0 from rfl, b, show max 0 n = n by omega, c, show max n 0 = n by omega])
  have q1 : decide ((n : Int) ≤ 4611686018427387903) = true := decide_eq_true (by omega)
  have q2 : decide ((4611686018427387903 : Int) < (n : Int)) = false := decide_eq_false (by omega)
  have q3 : decide (4611686018427387903 < n) = false := decide_eq_false (by omega)
  have q4 : decide ((n : Int) ≤ 1152921504606846976) = true := decide_eq_true (by omega)
  have q5 : decide (n ≤ 1152921504606846976) = true := decide_eq_true hn
  clear hA hb hn
  go_enter Try.func54, Try.ntmps54
  go_wp2_with (first
    | (refine L_loadG 37 _ rfl (by rfl) _ _ rfl _ _ HA.out.rng Try.underlying37 rfl iFr ?_)
    | (go_at_call 72; refine (HS.out W1).mono ?_; rintro e w2 ⟨rfl, B2⟩
       have HC2 := Lib.hid (HA.out.bel B2)
       have HB2 := Lib.hid (HB.out.trans (B2.mono HB.out.size))
       have c0 : w2.cell? ⟨g, 0, none⟩ = some (.int .u64 19) := HC2.out.at_ 0
       have c1 : w2.cell? ⟨g, 1, none⟩ = some (.int .u64 0) := HC2.out.at_ 1
       have c2 : w2.cell? ⟨g, 2, none⟩ = some (.int .u64 0) := HC2.out.at_ 2
       have c3 : w2.cell? ⟨g, 3, none⟩ = some (.int .u64 (n : Int)) := HC2.out.at_ 3
       have c4 : w2.cell? ⟨g, 4, none⟩ = some (.int .u64 0) := HC2.out.at_ 4
       clear B2)
    | (refine L_max4 rfl (by rfl) _ _ _ _ _ rfl rfl rfl rfl HM.out ?_))
  go_ret
  exact ⟨rfl, HB2.out⟩
/-- what a Stream frame must be -/
structure R8 (id off dn : Nat) : Prop where
  i : id ≤ 4611686018427387903
  o : off + dn ≤ 4611686018427387903
  d : dn ≤ 1200
theorem right_8 (w : World) (id off : Nat) (fin : Bool) (da : SA) (h : R8 id off da.n) : Calls Try.prog 54 #[.agg (frc 8 id off 0 0 fin da SA0 SA0).toArray] w fun e w' => e = .returned (.bool true) ∧ Below w.heap.size w w' := by
  obtain ⟨g, hg⟩ : ∃ k, w.heap.size = k := ⟨_, rfl⟩
  have hA := CR.new w 37 (frc 8 id off 0 0 fin da SA0 SA0)
  have hb := below_alloc w (.cells (frc 8 id off 0 0 fin da SA0 SA0).toArray 37)
  have HS := Lib.hid (fun (x : World) => clear_8 x id off fin da)
  unfold frc SA0 at hA hb HS
  unfold frc SA0
  obtain ⟨W1, hW1⟩ : ∃ x, w.alloc (.cells ([.int .u64 8, .int .u64 (id : Int), .int .u64 (off : Int), .int .u64 0, .int .u64 0, .bool fin, .slice da.a da.n da.c, .slice none 0 0, .slice none 0 0] : List Value).toArray 37) = x := ⟨_, rfl⟩
  rw [hW1, hg] at hA
  rw [hW1] at hb
  have HA := Lib.hid hA
  have HB := Lib.hid hb
  have Hg := Lib.hid (show w.heap.size ≤ g from Nat.le_of_eq hg)
  obtain ⟨X, hX⟩ : ∃ X, max id off = X := ⟨_, rfl⟩
  have HM := Lib.hid (show mx (mx (mx (id : Int) (off : Int)) 0) 0 = (X : Int) by have a := mx_nat id off; have b := mx_nat X 0; rw [show ((0 : Nat) : Int) = 0 from rfl] at b; rw [a, hX, b, show max X 0 = X by omega, b, show max X 0 = X by omega])
  have h1 := h.i
  have h2 := h.o
  have h3 := h.d
  obtain ⟨dn, hdn⟩ : ∃ d, da.n = d := ⟨_, rfl⟩
  rw [hdn] at h2 h3 HA HS hA hW1 ⊢
  have q2 : decide ((4611686018427387903 : Int) < (X : Int)) = false := decide_eq_false (by omega)
  have q3 : decide (4611686018427387903 < X) = false := decide_eq_false (by omega)
  obtain ⟨Y, hY⟩ : ∃ Y, 4611686018427387903 - dn = Y := ⟨_, rfl⟩
  have y1 : (4611686018427387903 : Int) - (dn : Int) = (Y : Int) := by omega
  have y2 : IntKind.u64.wrap (Y : Int) = (Y : Int) := IntWalk.u64_in _ (by omega)
  have y3 : IntKind.u64.wrap (dn : Int) = (dn : Int) := IntWalk.u64_in _ (by omega)
  have q4 : decide ((off : Int) ≤ (Y : Int)) = true := decide_eq_true (by omega)
  have q5 : decide (off ≤ Y) = true := decide_eq_true (by omega)
  clear hA hb h h1 h2 h3 hX hY hdn
  go_enter Try.func54, Try.ntmps54
  go_wp2_with (first
    | (refine L_loadG 37 _ rfl (by rfl) _ _ rfl _ _ HA.out.rng Try.underlying37 rfl iFr ?_)
    | (go_at_call 72; refine (HS.out W1).mono ?_; rintro e w2 ⟨rfl, B2⟩
       have HC2 := Lib.hid (HA.out.bel B2)
       have HB2 := Lib.hid (HB.out.trans (B2.mono HB.out.size))
       have c0 : w2.cell? ⟨g, 0, none⟩ = some (.int .u64 8) := HC2.out.at_ 0
       have c1 : w2.cell? ⟨g, 1, none⟩ = some (.int .u64 (id : Int)) := HC2.out.at_ 1
       have c2 : w2.cell? ⟨g, 2, none⟩ = some (.int .u64 (off : Int)) := HC2.out.at_ 2
       have c3 : w2.cell? ⟨g, 3, none⟩ = some (.int .u64 0) := HC2.out.at_ 3
       have c4 : w2.cell? ⟨g, 4, none⟩ = some (.int .u64 0) := HC2.out.at_ 4
       have c6 : w2.cell? ⟨g, 6, none⟩ = some (.slice da.a dn da.c) := HC2.out.at_ 6
       clear B2)
    | (refine L_max4 rfl (by rfl) _ _ _ _ _ rfl rfl rfl rfl HM.out ?_))
  go_ret
  exact ⟨rfl, HB2.out⟩
end Go.Proofs.Yteekafpkbdbadaa.Pi
