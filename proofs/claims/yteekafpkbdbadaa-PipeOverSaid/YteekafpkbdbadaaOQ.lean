/- frame: clear of a Stream. -/
import Derived.Test.YteekafpkbdbadaaON
set_option maxRecDepth 100000
set_option linter.unusedVariables false
namespace Go.Proofs.Yteekafpkbdbadaa.Pi
open Go.RowKit
theorem run_store1 {P : Program} (w : World) (b o : Nat) (ty : TypeId) (v : Value) (ht : w.there b o 1) (hi : (P.info? ty).map (·.size) = some 1) (h1 : v.oneCell' = true) :
    (storeVar ty ⟨b, o, none⟩ v).run P w = .ok () (w.setCells b o [v]) := by
  have hc : v.cells = #[v] := by cases v <;> first | rfl | cases h1
  have := run_storeCells_cells (P := P) b o [v] 0 w (fun j hj => by simpa using (ht j (by simpa using hj)).1) (fun j hj => by simpa using (ht j (by simpa using hj)).2) (fun x hx => by simp at hx; subst hx; exact h1)
  cases hq : P.info? ty with
  | none => simp [hq] at hi
  | some i =>
    have hs : i.size = 1 := by simpa [hq] using hi
    simp only [Nat.add_zero] at this
    simp [storeVar, sizeOf, typeInfo, hq, hc, hs, this]
section
variable {w : World} {g : Nat}
theorem CR.there1 {t : TypeId} {l : List Value} (h : CR w g t l) (i : Nat) (hl : i < l.length) : w.there g i 1 := fun j hj =>
  ⟨by rw [h.at_, List.getElem?_eq_getElem (by omega)]; rfl, h.fr _⟩
theorem L_store1 {ops : Array Oper} {rest : List Oper} {o : Oper} {f : Act} {Q : Exit → Act → World → Prop} (hgd : o.guard = none) (t : TypeId) (x y : Operand) (ho : o.op = .store t x y) {i : Nat} {t' : TypeId} {l : List Value} {v : Value} (h : CR w g t' l) (hx : f.eval x = .pointer (some ⟨g, i, none⟩)) (hy : f.eval y = v)
    (hi : (Try.prog.info? t).map (·.size) = some 1) (hl : i < l.length) (h1 : v.oneCell' = true)
    (hK : ∀ w', CR w' g t' (l.set i v) → w.grownBy w' (some g) → wpList Try.prog ops Q rest (f.put o.dst undef) w') : wpList Try.prog ops Q (o :: rest) f w :=
  wpList_plain hgd fun K hK' => by
    unfold Oper.wp execOp
    simp only [ho, hx, hy, Instr.storeAt, Instr.sureAddr, Sem.run_bind, Sem.run_pure, Result.andThen_ok, run_store1 w g i t v (h.there1 i hl) hi h1]
    exact hK' _ _ (hK _ (h.set i v) (grown_set w g i v))
end
set_option maxHeartbeats 400000 in
theorem clear_8 (w : World) (id off : Int) (fin : Bool) (da : SA) : Calls Try.prog 72 #[.agg (frc 8 id off 0 0 fin da SA0 SA0).toArray] w fun e w' => e = .returned (.bool true) ∧ Below w.heap.size w w' := by
  obtain ⟨g, hg⟩ : ∃ k, w.heap.size = k := ⟨_, rfl⟩
  have hA := CR.new w 37 (frc 8 id off 0 0 fin da SA0 SA0)
  have hb := below_alloc w (.cells (frc 8 id off 0 0 fin da SA0 SA0).toArray 37)
  unfold frc SA0 at hA hb
  unfold frc SA0
  obtain ⟨W1, hW1⟩ : ∃ x, w.alloc (.cells ([.int .u64 8, .int .u64 id, .int .u64 off, .int .u64 0, .int .u64 0, .bool fin, .slice da.a da.n da.c, .slice none 0 0, .slice none 0 0] : List Value).toArray 37) = x := ⟨_, rfl⟩
  rw [hW1, hg] at hA
  rw [hW1] at hb
  have Hg := Lib.hid (show w.heap.size ≤ g from Nat.le_of_eq hg)
  have HA := Lib.hid hA
  have HB := Lib.hid hb
  have c0 : W1.cell? ⟨g, 0, none⟩ = some (.int .u64 8) := HA.out.at_ 0
  clear hA hb
  go_enter Try.func72, Try.ntmps72
  go_wp2_with (go_at_call 56; refine (numbers_8 _).mono ?_; rintro e w' ⟨rfl, rfl⟩)
  refine wp_loop_rounds 1 ?_
  rw [rounds_succ]
  go_upto_region 16 with (fail)
  clear c0 hW1 hg
  go_upto_region 21 with (first
    | (refine L_store1 rfl 25 _ _ rfl (i := 1) HA.out rfl rfl (by kernel_rfl) (Nat.le_of_ble_eq_true rfl) rfl ?_; intro w2 hc2 hg2; have HC2 := Lib.hid hc2; have HG2 := Lib.hid hg2; clear hc2 hg2)
    | (refine L_store1 rfl 25 _ _ rfl (i := 2) HC2.out rfl rfl (by kernel_rfl) (Nat.le_of_ble_eq_true rfl) rfl ?_; intro w3 hc3 hg3; have HC3 := Lib.hid hc3; have HG3 := Lib.hid hg3; clear hc3 hg3)
    | (refine L_store1 rfl 4 _ _ rfl (i := 5) HC3.out rfl rfl (by kernel_rfl) (Nat.le_of_ble_eq_true rfl) rfl ?_; intro w4 hc4 hg4; have HC4 := Lib.hid hc4; have HG4 := Lib.hid hg4; clear hc4 hg4)
    | (refine L_store1 rfl 34 _ _ rfl (i := 6) HC4.out rfl rfl (by kernel_rfl) (Nat.le_of_ble_eq_true rfl) rfl ?_; intro W2 hc5 hg5; have HC5 := Lib.hid hc5; have HG5 := Lib.hid hg5; clear hc5 hg5))
  have B5 := Lib.hid ((((HB.out.grown HG2.out HB.out.size (fun j hj => by cases hj; exact Hg.out)).grown HG3.out (Nat.le_trans HB.out.size HG2.out.size) (fun j hj => by cases hj; exact Hg.out)).grown HG4.out (Nat.le_trans (Nat.le_trans HB.out.size HG2.out.size) HG3.out.size) (fun j hj => by cases hj; exact Hg.out)).grown HG5.out (Nat.le_trans (Nat.le_trans (Nat.le_trans HB.out.size HG2.out.size) HG3.out.size) HG4.out.size) (fun j hj => by cases hj; exact Hg.out))
  have HC3 := HC5.out
  have c0 : W2.cell? ⟨g, 0, none⟩ = some (.int .u64 8) := HC3.at_ 0
  have c1 : W2.cell? ⟨g, 1, none⟩ = some (.int .u64 0) := HC3.at_ 1
  have c2 : W2.cell? ⟨g, 2, none⟩ = some (.int .u64 0) := HC3.at_ 2
  have c3 : W2.cell? ⟨g, 3, none⟩ = some (.int .u64 0) := HC3.at_ 3
  have c4 : W2.cell? ⟨g, 4, none⟩ = some (.int .u64 0) := HC3.at_ 4
  have c5 : W2.cell? ⟨g, 5, none⟩ = some (.bool false) := HC3.at_ 5
  have c6 : W2.cell? ⟨g, 6, none⟩ = some (.slice none 0 0) := HC3.at_ 6
  have c7 : W2.cell? ⟨g, 7, none⟩ = some (.slice none 0 0) := HC3.at_ 7
  have c8 : W2.cell? ⟨g, 8, none⟩ = some (.slice none 0 0) := HC3.at_ 8
  have ho : bits .or .u64 0 0 = 0 := by kernel_rfl
  clear HC3
  go_wp2_with fail
  go_ret
  exact ⟨rfl, B5.out⟩
end Go.Proofs.Yteekafpkbdbadaa.Pi
