/- quilt: Put of nothing into a quilt in which nothing came yet. -/
import Derived.Test.YteekafpkbdbadaaQO
set_option maxRecDepth 100000
set_option linter.unusedVariables false
namespace Go.Proofs.Yteekafpkbdbadaa.Pi
open Go.RowKit
theorem len64_0 (w : World) : Calls Try.prog 95 #[.int .u64 0] w fun e w' => e = .returned (.int .i64 0) ∧ w = w' := by
  go_enter Try.func95, Try.ntmps95
  go_wp2
  go_ret
  exact ⟨by kernel_rfl, rfl⟩
theorem len_0 (w : World) : Calls Try.prog 76 #[.int .u64 0] w fun e w' => e = .returned (.int .i64 0) ∧ w = w' := by
  go_enter Try.func76, Try.ntmps76
  go_wp2_with (go_at_call 95; refine (len64_0 _).mono ?_; rintro e w' ⟨rfl, rfl⟩)
  go_ret
  exact ⟨rfl, rfl⟩
theorem ins_0 (w : World) (s c : Value) : Calls Try.prog 86 #[s, .int .i64 0, .int .i64 0, c] w fun e w' => e = .returned (.tuple #[]) ∧ w = w' := by
  go_enter Try.func86, Try.ntmps86
  go_wp2
  refine wp_loop_rounds 1 ?_
  rw [rounds_succ]
  go_wp2_with fail
  go_end0
  exact ⟨rfl, rfl⟩
theorem pdq_0 (w : World) (s c l : Value) : Calls Try.prog 75 #[s, .int .i64 0, .int .i64 0, l, c] w fun e w' => e = .returned (.tuple #[]) ∧ w = w' := by
  go_enter Try.func75, Try.ntmps75
  go_wp2
  refine wp_loop_rounds 1 ?_
  rw [rounds_succ]
  go_wp2_with (go_at_call 86; refine (ins_0 _ _ _).mono ?_; rintro e w' ⟨rfl, rfl⟩)
  refine bodyPost_ret (results_none rfl _ _ _) rfl ?_
  exact ⟨rfl, rfl⟩
theorem sort_0 (w : World) (a : Option Addr) (c : Nat) (f : Value) : Calls Try.prog 68 #[.slice a 0 c, f] w fun e w' => e = .returned (.tuple #[]) ∧ w = w' := by
  go_enter Try.func68, Try.ntmps68
  go_wp2_with (first
    | (go_at_call 76; refine (len_0 _).mono ?_; rintro e w' ⟨rfl, rfl⟩)
    | (go_at_call 75; refine (pdq_0 _ _ _ _).mono ?_; rintro e w' ⟨rfl, rfl⟩))
  go_end0
  exact ⟨rfl, rfl⟩
set_option maxHeartbeats 2000000 in
theorem check_00 {w : World} {qb : Nat} {v0 : Value} (h : CR w qb 111 [v0, u64 0, u64 0, u64 0, .bool false]) :
    Calls Try.prog 65 #[ptr qb, .int .u64 0, .int .i64 0, .bool false] w fun e w' => e = .returned (.int .i64 0) ∧ w = w' := by
  have c4 : w.cell? ⟨qb, 4, none⟩ = some (.bool false) := h.at_ 4
  clear h
  unfold ptr
  go_enter Try.func65, Try.ntmps65
  go_wp2
  go_ret
  exact ⟨rfl, rfl⟩
theorem clone_nil (w : World) : Calls Try.prog 66 #[.slice none 0 0] w fun e w' => e = .returned (.slice none 0 0) ∧ w = w' := by
  have hq := fun w1 => Lib.run_eql_slice_nil (P := Try.prog) w1 34 5 none 0 0 0 0 Try.underlying34
  go_enter Try.func66, Try.ntmps66
  go_wp2
  go_ret
  exact ⟨rfl, rfl⟩
theorem L_append_00 {P : Program} {ops : Array Oper} {rest : List Oper} {w : World} {o : Oper} {f : Act} {Q : Exit → Act → World → Prop} {t e : TypeId} {zero : Value} {z bytes : Nat} (ty : STy P t e zero z bytes) (s x : Operand) (hg : Region.wanted o (yielded ops f.tmps) = true)
    (hop : o.op = .call { callee := .builtin .append, args := #[s, x], argTypes := #[t, t] }) (es : f.eval s = .slice none 0 0) (ex : f.eval x = .slice none 0 0)
    (h : wpList P ops Q rest (f.put o.dst (.slice none 0 0)) w) : wpList P ops Q (o :: rest) f w := by
  obtain ⟨i, hi, hz0, hz1, hz2⟩ := info_parts ty.info
  refine wpList_on hg fun K hK => ?_
  have hrun := run_append_owned_none (P := P) (w := w) w.heap.size t o.type e i z ty.und hi (.slice none 0 0) 0 [] (World.ownsRow_nil w w.heap.size e z)
  unfold Oper.wp
  simp only [execOp, hop, resolve, invoke, builtin, Sem.run_bind, Sem.run_pure, Result.andThen_ok, List.map_toArray, List.map_cons, List.map_nil, es, ex, hrun]
  exact hK _ _ h
section
variable {w w' : World} {role : Nat → Nat} {r qb : Nat}
set_option maxHeartbeats 4000000 in
theorem put_nil (hq : QuZ w role r qb ⟨[], 0, 0, 0, false⟩) (top : ∀ k, w.heap.size ≤ k → role k = 0) :
    Calls Try.prog 46 #[ptr qb, .int .u64 0, .slice none 0 0, .bool false] w fun e w' => e = .returned (.int .i64 0) ∧ QuZ w' role r qb ⟨[], 0, 0, 0, false⟩ ∧ Stq (fun x => x = r + 10) w w' role role := by
  obtain ⟨x, vs, q1, q2, q3, q4⟩ := hq.ex
  have hx0 := q4 rfl
  subst hx0
  have HCH := Lib.hid (check_00 q1.cr)
  have HQ1 := Lib.hid q1
  have HTOP := Lib.hid top
  have hmd : ∀ (ts : Array TypeId) (t : TypeId) (W : World), (Builtin.max_ ts t #[.int .u64 0, .int .u64 0]).run Try.prog W = .ok (.int .u64 0) W := fun ts t W => max2 W ts t 0 0
  have HMD := Lib.hid hmd
  have HE := Lib.hid (fun (W : World) => (by have hq := pend_any W 0 ⟨none, 0, 0⟩ (by decide); rw [show ((0 + (⟨none, 0, 0⟩ : SA).n : Nat) : Int) = 0 from rfl] at hq; exact hq : Calls Try.prog 67 #[.agg #[.int .u64 0, .slice none 0 0]] W fun e w' => e = .returned (.int .u64 0) ∧ Below W.heap.size W w'))
  clear hq q1 q2 q3 q4 top hmd
  unfold ptr at HCH ⊢
  obtain ⟨xb, hxb⟩ : ∃ q, w.heap.size = q := ⟨_, rfl⟩
  have hrx := CR.new w 113 [.int .u64 0, .slice none 0 0]
  rw [hxb] at hrx
  have HRX := Lib.hid hrx
  have HXB := Lib.hid hxb
  clear hrx
  go_enter Try.func46, Try.ntmps46
  go_upto_region 5 with (first
    | (go_at_call 65; refine HCH.out.mono ?_; rintro y w2 ⟨rfl, rfl⟩)
    | (go_at_call 66; refine (clone_nil _).mono ?_; rintro y w2 ⟨rfl, rfl⟩)
    | (refine L_storeRow (old := [.int .u64 0, .slice none 0 0]) (new := [.int .u64 0, .slice none 0 0]) rfl 113 _ _ rfl rfl rfl HRX.out iPat rfl rfl (by simp [Value.oneCell']) ?_; intro w4 hz4 hg4; have HX4 := Lib.hid hz4; have HG4 := Lib.hid hg4; clear hz4 hg4))
  have B4 : Below w.heap.size w w4 := (below_alloc w (.cells [.int .u64 0, .slice none 0 0].toArray 113)).grown HG4.out (by simp) (fun j hj => by cases hj; rw [HXB.out]; exact Nat.le_refl _)
  have HW4 := Lib.hid B4
  have HQ4 := Lib.hid (HQ1.out.cr.bel B4)
  have HQX := Lib.hid (show qb ≠ xb from fun he => by have := HQ1.out.cr.lt; have := HXB.out; omega)
  clear B4 hxb
  have bV : Below w4.heap.size w4 w4.drew := bel_drew _ _
  obtain ⟨V, hV⟩ : ∃ V, w4.drew = V := ⟨_, rfl⟩
  rw [hV] at bV
  have HQV := Lib.hid (HQ4.out.bel bV)
  have HXV := Lib.hid (HX4.out.bel bV)
  have HWV := Lib.hid (HW4.out.trans (bV.mono HW4.out.size))
  have r2 : V.cell? ⟨qb, 2, none⟩ = some (.int .u64 0) := HQV.out.at_ 2
  have rx := HXV.out.rng
  clear bV
  refine wp_region_U 10 (S := fun x => x.cell? ⟨qb, 2, none⟩ = some (.int .u64 0) ∧ x.rangeAt xb 0 [.int .u64 0, .slice none 0 0]) (by kernel_rfl) (by rw [hV]; exact ⟨r2, rx⟩) (fun hHeld => ?_)
  rw [hV] at hHeld ⊢
  clear hV r2 rx
  have hmd := HMD.out
  refine wpAnyU_take (i := 0) (v := .pointer (some ⟨qb, 0, none⟩)) rfl (by kernel_rfl) (by kernel_rfl) (by kernel_rfl) (by kernel_rfl) rfl (by kernel_rfl) (fun _ _ _ h => h) (Or.inl ⟨by rfl, fun w h => by go_simp⟩) hHeld ?_
  try simp only [Act.put, List.getElem_toArray, List.getElem_cons_zero, List.setIfInBounds_toArray, List.set_cons_zero, List.set_cons_succ]
  refine wpAnyU_take (i := 1) (v := .pointer (some ⟨qb, 0, none⟩)) rfl (by kernel_rfl) (by kernel_rfl) (by kernel_rfl) (by kernel_rfl) rfl (by kernel_rfl) (fun _ _ _ h => h) (Or.inl ⟨by rfl, fun w h => by go_simp⟩) hHeld ?_
  try simp only [Act.put, List.getElem_toArray, List.getElem_cons_succ, List.getElem_cons_zero, List.setIfInBounds_toArray, List.set_cons_zero, List.set_cons_succ]
  refine wpAnyU_take (i := 2) (v := .pointer (some ⟨qb, 0, none⟩)) rfl (by kernel_rfl) (by kernel_rfl) (by kernel_rfl) (by kernel_rfl) rfl (by kernel_rfl) (fun _ _ _ h => h) (Or.inl ⟨by rfl, fun w h => by go_simp⟩) hHeld ?_
  try simp only [Act.put, List.getElem_toArray, List.getElem_cons_succ, List.getElem_cons_zero, List.setIfInBounds_toArray, List.set_cons_zero, List.set_cons_succ]
  refine wpAnyU_take (i := 3) (v := .pointer (some ⟨qb, 2, none⟩)) rfl (by kernel_rfl) (by kernel_rfl) (by kernel_rfl) (by kernel_rfl) rfl (by kernel_rfl) (fun _ _ _ h => h) (Or.inl ⟨by rfl, fun w h => by go_simp⟩) hHeld ?_
  try simp only [Act.put, List.getElem_toArray, List.getElem_cons_succ, List.getElem_cons_zero, List.setIfInBounds_toArray, List.set_cons_zero, List.set_cons_succ]
  refine wpAnyU_take (i := 4) (v := .int .u64 0) rfl (by kernel_rfl) (by kernel_rfl) (by kernel_rfl) (by kernel_rfl) rfl (by kernel_rfl) (fun _ _ _ h => h) (Or.inl ⟨by rfl, fun w h => by go_simp⟩) hHeld ?_
  try simp only [Act.put, List.getElem_toArray, List.getElem_cons_succ, List.getElem_cons_zero, List.setIfInBounds_toArray, List.set_cons_zero, List.set_cons_succ]
  refine wpAnyU_take (i := 5) rfl (by kernel_rfl) (by kernel_rfl) (by kernel_rfl) (by kernel_rfl) rfl (by kernel_rfl) (fun _ _ _ h => h) (yieldsIf_load_mid (by rfl) _ _ rfl _ _ rfl _ _ (fun w h => h.2) Try.underlying113 rfl iPat) hHeld ?_
  try simp only [Act.put, List.getElem_toArray, List.getElem_cons_succ, List.getElem_cons_zero, List.setIfInBounds_toArray, List.set_cons_zero, List.set_cons_succ]
  refine wpAnyU_ready (rs := [6]) (by kernel_rfl) (by simp) (AllReadyU.cons rfl (fun K hK => ?_) AllReadyU.nil)
  go_simp
  go_at_call 67
  refine (HE.out V).mono ?_
  rintro y w5 ⟨rfl, B5⟩
  have HQ5 := Lib.hid (HQV.out.bel B5)
  have HX5 := Lib.hid (HXV.out.bel B5)
  have HW5 := Lib.hid (HWV.out.trans (B5.mono HWV.out.size))
  refine hK.out _ _ ⟨HQ5.out.at_ 2, HX5.out.rng⟩ (fun hHeld => ?_)
  clear hK K B5
  try simp only [Act.put, List.getElem_toArray, List.getElem_cons_succ, List.getElem_cons_zero, List.setIfInBounds_toArray, List.set_cons_zero, List.set_cons_succ]
  refine wpAnyU_take (i := 7) (v := .int .u64 0) rfl (by kernel_rfl) (by kernel_rfl) (by kernel_rfl) (by kernel_rfl) rfl (by kernel_rfl) (fun _ _ _ h => h) (Or.inl ⟨by rfl, fun w h => by go_simp⟩) hHeld ?_
  try simp only [Act.put, List.getElem_toArray, List.getElem_cons_succ, List.getElem_cons_zero, List.setIfInBounds_toArray, List.set_cons_zero, List.set_cons_succ]
  refine wpAnyU_ready (rs := [8]) (by kernel_rfl) (by simp) (AllReadyU.cons rfl (fun K hK => ?_) AllReadyU.nil)
  go_simp
  refine hK.out _ _ hHeld (fun hHeld => ?_)
  clear hK K
  try simp only [Act.put, List.getElem_toArray, List.getElem_cons_succ, List.getElem_cons_zero, List.setIfInBounds_toArray, List.set_cons_zero, List.set_cons_succ]
  refine wpAnyU_take (i := 9) (v := .pointer (some ⟨qb, 2, none⟩)) rfl (by kernel_rfl) (by kernel_rfl) (by kernel_rfl) (by kernel_rfl) rfl (by kernel_rfl) (fun _ _ _ h => h) (Or.inl ⟨by rfl, fun w h => by go_simp⟩) hHeld ?_
  try simp only [Act.put, List.getElem_toArray, List.getElem_cons_succ, List.getElem_cons_zero, List.setIfInBounds_toArray, List.set_cons_zero, List.set_cons_succ]
  have d2 := hHeld.1
  have f2 := HQ5.out.fr 2
  refine wpAnyU_ready (rs := [10]) (by kernel_rfl) (by simp) (AllReadyU.consT rfl (by kernel_rfl) (fun K hK => ?_) AllReadyU.nil)
  go_simp
  refine hK.out _ _ ?_
  clear hK K hHeld d2 f2 hmd
  try simp only [Act.put, List.getElem_toArray, List.getElem_cons_succ, List.getElem_cons_zero, List.setIfInBounds_toArray, List.set_cons_zero, List.set_cons_succ]
  refine wpAnyU_done (by kernel_rfl) ?_ _
  try simp only [Act.put, List.getElem_toArray, List.getElem_cons_succ, List.getElem_cons_zero]
  have G6 := Lib.hid ((grown_bel HW5.out (some qb)).andThen (grown_set w5 qb 2 (.int .u64 0)) (fun j hj => by cases hj; exact Or.inr rfl))
  have HQ6 := Lib.hid (HQ5.out.set 2 (.int .u64 0))
  have HX6 := Lib.hid (HX5.out.grown (grown_set w5 qb 2 (.int .u64 0)) (fun he => by injection he with he; exact HQX.out he.symm))
  obtain ⟨w6, hw6⟩ : ∃ q, w5.setCell ⟨qb, 2, none⟩ (.int .u64 0) = q := ⟨_, rfl⟩
  rw [hw6] at G6 HQ6 HX6 ⊢
  clear hw6
  go_wp2_with fail
  have k0 : w6.cell? ⟨xb, 0, none⟩ = some (.int .u64 0) := HX6.out.at_ 0
  have k1 : w6.cell? ⟨qb, 1, none⟩ = some (.int .u64 0) := HQ6.out.at_ 1
  go_quiet (fail)
  clear k0 k1
  have bV := bel_drewN w6.heap.size w6 nq
  obtain ⟨U, hU⟩ : ∃ q, w6.drewN nq = q := ⟨_, rfl⟩
  rw [hU] at bV ⊢
  have HQU := Lib.hid (HQ6.out.bel bV)
  have HXU := Lib.hid (HX6.out.bel bV)
  have GU := Lib.hid (G6.out.andThen (grown_bel bV none) (fun j hj => by cases hj))
  clear bV hU
  have k0 : U.cell? ⟨qb, 0, none⟩ = some (.slice none 0 0) := HQU.out.at_ 0
  have k1 : U.cell? ⟨xb, 1, none⟩ = some (.slice none 0 0) := HXU.out.at_ 1
  go_wp2_with fail
  refine wp_loop_rounds 1 ?_
  rw [rounds_succ]
  go_upto_region 25 with (first
    | (refine L_append_00 tP _ _ (by rfl) rfl rfl rfl ?_)
    | (refine L_store1 rfl 109 _ _ rfl (i := 0) HQU.out rfl rfl (by kernel_rfl) (Nat.le_of_ble_eq_true rfl) rfl ?_; intro wE hcE hgE; have HQE := Lib.hid hcE; have HGE := Lib.hid hgE; clear hcE hgE))
  have e0 : wE.cell? ⟨qb, 0, none⟩ = some (.slice none 0 0) := HQE.out.at_ 0
  clear k0 k1
  go_wp2_with (go_at_call 68; refine (sort_0 _ _ _ _).mono ?_; rintro y w' ⟨rfl, rfl⟩)
  go_ret
  have G := GU.out.andThen HGE.out (fun j hj => by cases hj; exact Or.inr rfl)
  have st : Stq (fun x => x = r + 10) w wE role role := Stq.grown G HQ1.out.rb HTOP.out
  exact ⟨rfl, ⟨SA0, [], ⟨HQE.out, HQ1.out.rb⟩, OXZ.nil _ _ _ _ _, .nil, fun _ => rfl⟩, st⟩
end
end Go.Proofs.Yteekafpkbdbadaa.Pi
