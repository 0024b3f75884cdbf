/-
  HeadGrows: for every acked, far, between, some the law returns true and its arguments read as before. No condition.
  THE SHELL OF A PROOF OF 'Rows.HeadGrowsSaid' ('colonnade/colonnadelaw04.HeadGrows'), WRITTEN BY PROGRAM (proof-skeleton.mjs) off the guide's own print for that function. Not trusted: Lean checks it.
  YOURS ARE THE HOLES MARKED 'HOLE' (each bears 'sorry'). ALL ELSE IS THE GUIDE's TEMPLATE (howto/template/XProofs.lean) at this function's number and types: leave it.
-/
import Derived.Test.YtdfachjgnhljfaaRows
import Derived.WalkKit
import Derived.ProofKit
import Derived.OpenShut
import Derived.Test.YtdfachjgnhljfaaA
namespace Go.Proofs.Ytdfachjgnhljfaa.headGrows
open Go.ChangeShapes Go.WideShapes Go.ChangeAt Go.RowKit
set_option linter.unusedVariables false      -- a walk need not use every 'w<i>' (that an integer argument fits its kind)

theorem own : ownKnob Try.prog.godebug = none := by kernel_rfl

theorem grow_back (pn next win : Int) (hw : win = 256 ∨ win = 65536 ∨ win = 16777216 ∨ win = 4294967296) (h0 : 0 ≤ next) (h1 : next ≤ pn) (h2 : pn - next < win / 2) (h3 : pn < 2305843009213693952 + 4294967296) : growS next (pn % win) win = pn := by
  unfold growS
  rcases hw with rfl | rfl | rfl | rfl <;> (repeat' split) <;> omega
theorem size_of (far : Int) (h1 : far ≤ 2147483648) : ∃ k win : Int, (if far ≤ 128 then (1 : Int) else if far ≤ 32768 then 2 else if far ≤ 8388608 then 3 else 4) = k ∧ far ≤ win / 2 ∧ (k = 1 ∧ win = 256 ∨ k = 2 ∧ win = 65536 ∨ k = 3 ∧ win = 16777216 ∨ k = 4 ∧ win = 4294967296) := by
  by_cases c1 : far ≤ 128
  · exact ⟨1, 256, by rw [if_pos c1], by omega, by omega⟩
  · by_cases c2 : far ≤ 32768
    · exact ⟨2, 65536, by rw [if_neg c1, if_pos c2], by omega, by omega⟩
    · by_cases c3 : far ≤ 8388608
      · exact ⟨3, 16777216, by rw [if_neg c1, if_neg c2, if_pos c3], by omega, by omega⟩
      · exact ⟨4, 4294967296, by rw [if_neg c1, if_neg c2, if_neg c3], by omega, by omega⟩
theorem awake_calls (w : World) : Calls Try.prog 4 #[] w fun e w' => e = .returned (.bool true) ∧ w = w' := by
  go_enter Try.func4, Try.ntmps4
  go_wp2_with (first | (go_at_call 5; refine (need_any _ _ _ 29519 _ (by omega) (by omega) (Or.inl ⟨rfl, rfl⟩)).mono ?_; rintro e w' ⟨rfl, rfl⟩) | (go_at_call 6; refine (grow_2_true _ _ _ (by omega) (by omega) (by omega) (by omega)).mono ?_; rintro e w' ⟨rfl, rfl⟩))
  go_ret
  exact ⟨rfl, rfl⟩
theorem ret_true {b : Bool} (h : b = true) : Ending.returned (.bool b) = .returned (.bool true) := by rw [h]
theorem walk_true (a0 : Int) (a1 : Int) (a2 : Int) (b0 : 0 ≤ a0) (b1 : a0 < 18446744073709551616) (c0 : 0 ≤ a1) (c1 : a1 < 4294967296) (d0 : 0 ≤ a2) (d1 : a2 < 4294967296) (w : World) :
    Calls Try.prog 3 #[.int .u64 a0, .int .u32 a1, .int .u32 a2, .bool true] w fun e w' => e = .returned (.bool true) ∧ Grown w w' := by
  obtain ⟨A, hA⟩ : ∃ A, a0 % 2305843009213693952 = A := ⟨_, rfl⟩
  obtain ⟨F, hF⟩ : ∃ F, a1 % 2147483647 = F := ⟨_, rfl⟩
  obtain ⟨B, hB⟩ : ∃ B, a2 % (A + 1 + F - A) = B := ⟨_, rfl⟩
  have eA := Int.emod_nonneg a0 (show (2305843009213693952 : Int) ≠ 0 by omega)
  have eA2 := Int.emod_lt_of_pos a0 (show (0 : Int) < 2305843009213693952 by omega)
  have eF := Int.emod_nonneg a1 (show (2147483647 : Int) ≠ 0 by omega)
  have eF2 := Int.emod_lt_of_pos a1 (show (0 : Int) < 2147483647 by omega)
  rw [hA] at eA eA2
  rw [hF] at eF eF2
  have eB := Int.emod_nonneg a2 (show (A + 1 + F - A : Int) ≠ 0 by omega)
  have eB2 := Int.emod_lt_of_pos a2 (show (0 : Int) < A + 1 + F - A by omega)
  rw [hB] at eB eB2
  have hq0 : 0 ≤ A + 1 + F - A := by omega
  have hq1 : A + 1 + F - A < 18446744073709551616 := by omega
  have hfar : IntKind.u64.wrap (A + 1 + F - A) = A + 1 + F - A := IntWalk.u64_in _ ⟨by omega, by omega⟩
  have HF := Lib.hid hfar
  clear hfar
  obtain ⟨k, win, hk, hw, hkw⟩ := size_of (A + 1 + F - A) (by omega)
  rcases hkw with ⟨rfl, rfl⟩ | ⟨rfl, rfl⟩ | ⟨rfl, rfl⟩ | ⟨rfl, rfl⟩
  · have hg := grow_back (A + 1 + F) (A + B + 1) 256 (by omega) (by omega) (by omega) (by omega) (by omega)
    have HG := Lib.hid hg
    clear hg
    go_enter Try.func3, Try.ntmps3
    go_wp2_with (first | (go_at_call 4; refine (awake_calls _).mono ?_; rintro e w' ⟨rfl, rfl⟩) | (go_at_call 5; refine (need_any _ _ _ _ _ hq0 hq1 (Or.inl ⟨HF.out, rfl⟩)).mono ?_; rintro e w' ⟨rfl, rfl⟩) | (go_at_call 7; refine (cut_1 _ _ (by omega) (by omega)).mono ?_; rintro e w' ⟨rfl, rfl⟩) | (go_at_call 6; refine (grow_1_true _ _ _ (by omega) (by omega) (by omega) (by omega)).mono ?_; rintro e w' ⟨rfl, rfl⟩))
    go_ret
    exact ⟨ret_true (by rw [HG.out]; simp), Grown.refl _⟩
  · have hg := grow_back (A + 1 + F) (A + B + 1) 65536 (by omega) (by omega) (by omega) (by omega) (by omega)
    have HG := Lib.hid hg
    clear hg
    go_enter Try.func3, Try.ntmps3
    go_wp2_with (first | (go_at_call 4; refine (awake_calls _).mono ?_; rintro e w' ⟨rfl, rfl⟩) | (go_at_call 5; refine (need_any _ _ _ _ _ hq0 hq1 (Or.inl ⟨HF.out, rfl⟩)).mono ?_; rintro e w' ⟨rfl, rfl⟩) | (go_at_call 7; refine (cut_2 _ _ (by omega) (by omega)).mono ?_; rintro e w' ⟨rfl, rfl⟩) | (go_at_call 6; refine (grow_2_true _ _ _ (by omega) (by omega) (by omega) (by omega)).mono ?_; rintro e w' ⟨rfl, rfl⟩))
    go_ret
    exact ⟨ret_true (by rw [HG.out]; simp), Grown.refl _⟩
  · have hg := grow_back (A + 1 + F) (A + B + 1) 16777216 (by omega) (by omega) (by omega) (by omega) (by omega)
    have HG := Lib.hid hg
    clear hg
    go_enter Try.func3, Try.ntmps3
    go_wp2_with (first | (go_at_call 4; refine (awake_calls _).mono ?_; rintro e w' ⟨rfl, rfl⟩) | (go_at_call 5; refine (need_any _ _ _ _ _ hq0 hq1 (Or.inl ⟨HF.out, rfl⟩)).mono ?_; rintro e w' ⟨rfl, rfl⟩) | (go_at_call 7; refine (cut_3 _ _ (by omega) (by omega)).mono ?_; rintro e w' ⟨rfl, rfl⟩) | (go_at_call 6; refine (grow_3_true _ _ _ (by omega) (by omega) (by omega) (by omega)).mono ?_; rintro e w' ⟨rfl, rfl⟩))
    go_ret
    exact ⟨ret_true (by rw [HG.out]; simp), Grown.refl _⟩
  · have hg := grow_back (A + 1 + F) (A + B + 1) 4294967296 (by omega) (by omega) (by omega) (by omega) (by omega)
    have HG := Lib.hid hg
    clear hg
    go_enter Try.func3, Try.ntmps3
    go_wp2_with (first | (go_at_call 4; refine (awake_calls _).mono ?_; rintro e w' ⟨rfl, rfl⟩) | (go_at_call 5; refine (need_any _ _ _ _ _ hq0 hq1 (Or.inl ⟨HF.out, rfl⟩)).mono ?_; rintro e w' ⟨rfl, rfl⟩) | (go_at_call 7; refine (cut_4 _ _ (by omega) (by omega)).mono ?_; rintro e w' ⟨rfl, rfl⟩) | (go_at_call 6; refine (grow_4_true _ _ _ (by omega) (by omega) (by omega) (by omega)).mono ?_; rintro e w' ⟨rfl, rfl⟩))
    go_ret
    exact ⟨ret_true (by rw [HG.out]; simp), Grown.refl _⟩
theorem walk_false (a0 : Int) (a1 : Int) (a2 : Int) (b0 : 0 ≤ a0) (b1 : a0 < 18446744073709551616) (c0 : 0 ≤ a1) (c1 : a1 < 4294967296) (d0 : 0 ≤ a2) (d1 : a2 < 4294967296) (w : World) :
    Calls Try.prog 3 #[.int .u64 a0, .int .u32 a1, .int .u32 a2, .bool false] w fun e w' => e = .returned (.bool true) ∧ Grown w w' := by
  obtain ⟨A, hA⟩ : ∃ A, a0 % 2305843009213693952 = A := ⟨_, rfl⟩
  obtain ⟨F', hF'⟩ : ∃ F', a1 % 2147483647 = F' := ⟨_, rfl⟩
  obtain ⟨F, hF⟩ : ∃ F, a1 % 2147483648 = F := ⟨_, rfl⟩
  obtain ⟨B, hB⟩ : ∃ B, a2 % (A + 1 + F' - A) = B := ⟨_, rfl⟩
  have eA := Int.emod_nonneg a0 (show (2305843009213693952 : Int) ≠ 0 by omega)
  have eA2 := Int.emod_lt_of_pos a0 (show (0 : Int) < 2305843009213693952 by omega)
  have eF := Int.emod_nonneg a1 (show (2147483648 : Int) ≠ 0 by omega)
  have eF2 := Int.emod_lt_of_pos a1 (show (0 : Int) < 2147483648 by omega)
  have eG := Int.emod_nonneg a1 (show (2147483647 : Int) ≠ 0 by omega)
  have eG2 := Int.emod_lt_of_pos a1 (show (0 : Int) < 2147483647 by omega)
  rw [hA] at eA eA2
  rw [hF] at eF eF2
  rw [hF'] at eG eG2
  have eB := Int.emod_nonneg a2 (show (A + 1 + F' - A : Int) ≠ 0 by omega)
  have eB2 := Int.emod_lt_of_pos a2 (show (0 : Int) < A + 1 + F' - A by omega)
  rw [hB] at eB eB2
  have hq0 : 0 ≤ F + 1 := by omega
  have hq1 : F + 1 < 18446744073709551616 := by omega
  have hfar : IntKind.u64.wrap (F + 1) = F + 1 := IntWalk.u64_in _ ⟨by omega, by omega⟩
  have HF := Lib.hid hfar
  clear hfar
  obtain ⟨k, win, hk, hw, hkw⟩ := size_of (F + 1) (by omega)
  rcases hkw with ⟨rfl, rfl⟩ | ⟨rfl, rfl⟩ | ⟨rfl, rfl⟩ | ⟨rfl, rfl⟩
  · have hg := grow_back F 0 256 (by omega) (by omega) (by omega) (by omega) (by omega)
    have HG := Lib.hid hg
    clear hg
    go_enter Try.func3, Try.ntmps3
    go_wp2_with (first | (go_at_call 4; refine (awake_calls _).mono ?_; rintro e w' ⟨rfl, rfl⟩) | (go_at_call 5; refine (need_any _ _ _ _ _ hq0 hq1 (Or.inr ⟨HF.out, rfl⟩)).mono ?_; rintro e w' ⟨rfl, rfl⟩) | (go_at_call 7; refine (cut_1 _ _ (by omega) (by omega)).mono ?_; rintro e w' ⟨rfl, rfl⟩) | (go_at_call 6; refine (grow_1_false _ _ _ (by omega) (by omega)).mono ?_; rintro e w' ⟨rfl, rfl⟩))
    go_ret
    exact ⟨ret_true (by rw [HG.out]; simp), Grown.refl _⟩
  · have hg := grow_back F 0 65536 (by omega) (by omega) (by omega) (by omega) (by omega)
    have HG := Lib.hid hg
    clear hg
    go_enter Try.func3, Try.ntmps3
    go_wp2_with (first | (go_at_call 4; refine (awake_calls _).mono ?_; rintro e w' ⟨rfl, rfl⟩) | (go_at_call 5; refine (need_any _ _ _ _ _ hq0 hq1 (Or.inr ⟨HF.out, rfl⟩)).mono ?_; rintro e w' ⟨rfl, rfl⟩) | (go_at_call 7; refine (cut_2 _ _ (by omega) (by omega)).mono ?_; rintro e w' ⟨rfl, rfl⟩) | (go_at_call 6; refine (grow_2_false _ _ _ (by omega) (by omega)).mono ?_; rintro e w' ⟨rfl, rfl⟩))
    go_ret
    exact ⟨ret_true (by rw [HG.out]; simp), Grown.refl _⟩
  · have hg := grow_back F 0 16777216 (by omega) (by omega) (by omega) (by omega) (by omega)
    have HG := Lib.hid hg
    clear hg
    go_enter Try.func3, Try.ntmps3
    go_wp2_with (first | (go_at_call 4; refine (awake_calls _).mono ?_; rintro e w' ⟨rfl, rfl⟩) | (go_at_call 5; refine (need_any _ _ _ _ _ hq0 hq1 (Or.inr ⟨HF.out, rfl⟩)).mono ?_; rintro e w' ⟨rfl, rfl⟩) | (go_at_call 7; refine (cut_3 _ _ (by omega) (by omega)).mono ?_; rintro e w' ⟨rfl, rfl⟩) | (go_at_call 6; refine (grow_3_false _ _ _ (by omega) (by omega)).mono ?_; rintro e w' ⟨rfl, rfl⟩))
    go_ret
    exact ⟨ret_true (by rw [HG.out]; simp), Grown.refl _⟩
  · have hg := grow_back F 0 4294967296 (by omega) (by omega) (by omega) (by omega) (by omega)
    have HG := Lib.hid hg
    clear hg
    go_enter Try.func3, Try.ntmps3
    go_wp2_with (first | (go_at_call 4; refine (awake_calls _).mono ?_; rintro e w' ⟨rfl, rfl⟩) | (go_at_call 5; refine (need_any _ _ _ _ _ hq0 hq1 (Or.inr ⟨HF.out, rfl⟩)).mono ?_; rintro e w' ⟨rfl, rfl⟩) | (go_at_call 7; refine (cut_4 _ _ (by omega) (by omega)).mono ?_; rintro e w' ⟨rfl, rfl⟩) | (go_at_call 6; refine (grow_4_false _ _ _ (by omega) (by omega)).mono ?_; rintro e w' ⟨rfl, rfl⟩))
    go_ret
    exact ⟨ret_true (by rw [HG.out]; simp), Grown.refl _⟩
/-! ### STEP 1: THE WALK: the Go text returns true. 'Grown w w'': the world has at most new blocks (Derived/RowKit3.lean). Part the cases AHEAD of 'go_enter' where a test parts the walk; take each callee by a contract of your own. -/
theorem walk (a0 : Int) (a1 : Int) (a2 : Int) (a3 : Bool) (w0 : (Lit.int .u64 a0).wf = true) (w1 : (Lit.int .u32 a1).wf = true) (w2 : (Lit.int .u32 a2).wf = true) (w : World) :
    Calls Try.prog 3 #[.int .u64 a0, .int .u32 a1, .int .u32 a2, .bool a3] w fun e w' => e = .returned (.bool true) ∧ Grown w w' := by
  have e0 := bounds_u64 w0
  have e1 := bounds_u32 w1
  have e2 := bounds_u32 w2
  cases a3
  · exact walk_false a0 a1 a2 (by omega) (by omega) (by omega) (by omega) (by omega) (by omega) w
  · exact walk_true a0 a1 a2 (by omega) (by omega) (by omega) (by omega) (by omega) (by omega) w

/-! ### THE ROW's STEP: WRITTEN OUT: LEAVE IT -/
set_option maxRecDepth 100000 in
theorem lifted (os : Os) (started : os.Started) (H : Type) (enc : TypeId × Value → H) :
    ReturnsInHanded {} Try.checked os 3 .any (Rows.headGrowsSpec.pre6 enc Try.prog Try.f3 Rows.headGrowsRow.domain false) (Rows.headGrowsSpec.post enc Try.prog Try.f3 false true false false) := by
  refine returnsInHanded_of_change (C := Try.checked) own started (by kernel_rfl) Try.func3
    (ChangeSpec.witness6 (enc := enc) (C := Try.checked) false ⟨#[], #[.int .u64 0, .int .u32 0, .int .u32 0, .bool false], []⟩ 8 (by kernel_rfl) (by kernel_rfl) (by kernel_rfl) (by kernel_rfl)) ?_
  intro W base args ds gs before hval0 hW hcnd _
  have hval : ∀ (j : Nat) t v, Try.f3.params[j]? = some t → args[j]? = some v → Value.okWide Try.prog W .any base t v := hval0
  have hW' := hW
  obtain ⟨p, q, hA0, hV, rfl, hfz, hnd⟩ := hW
  have hA : DataW.TrodAll enc Try.prog W 0 (fun _ => true) true Try.f3.params.toList args.toList ds p := hA0
  rw [Try.params3] at hA hval
  obtain ⟨v0, vs0, d0, ds0, p0, q0, hargs, rfl, rfl, h0, r0⟩ := trodAll_cons hA
  obtain ⟨v1, vs1, d1, ds1, p1, q1, rfl, rfl, rfl, h1, r1⟩ := trodAll_cons r0
  obtain ⟨v2, vs2, d2, ds2, p2, q2, rfl, rfl, rfl, h2, r2⟩ := trodAll_cons r1
  obtain ⟨v3, vs3, d3, ds3, p3, q3, rfl, rfl, rfl, h3, r3⟩ := trodAll_cons r2
  obtain ⟨rfl, rfl, rfl⟩ := trodAll_nil r3
  obtain rfl : args = #[v0, v1, v2, v3] := by cases args; simp_all
  obtain ⟨rfl, rfl⟩ := trodVars_none hV
  obtain ⟨a0, rfl, rfl, rfl, w0⟩ := open_int Try.underlying22 (hval 0 22 v0 rfl rfl) h0
  obtain ⟨a1, rfl, rfl, rfl, w1⟩ := open_int Try.underlying23 (hval 1 23 v1 rfl rfl) h1
  obtain ⟨a2, rfl, rfl, rfl, w2⟩ := open_int Try.underlying23 (hval 2 23 v2 rfl rfl) h2
  obtain ⟨a3, rfl, rfl, rfl⟩ := open_bool Try.underlying4 (hval 3 4 v3 rfl rfl) h3
  clear hA0 hval0
  simp only [List.append_nil] at hW'
  refine (walk a0 a1 a2 a3 w0 w1 w2 W).mono fun e W' ⟨he, hg⟩ => ?_
  subst he
  exact ⟨_, rfl, post_of_same (pa := []) (pv := []) hW' (fun _ _ _ => (trodAll_cons_mk (shut_bool Try.underlying4 _) trodAll_mk0)) (fun sp _ => (trodAll_cons_mk (shut_int Try.underlying22 w0) (trodAll_cons_mk (shut_int Try.underlying23 w1) (trodAll_cons_mk (shut_int Try.underlying23 w2) (trodAll_cons_mk (shut_bool Try.underlying4 _) trodAll_mk0))))) (fun _ _ => rfl) rfl
    (hg.frame _) hg.2.1 (ok_one (by kernel_rfl) rfl (okWide_bool_mk Try.underlying4 _))⟩

theorem over : Rows.headGrowsRow.holds Try.pinned (OpenSpec.ofChange Rows.headGrowsSpec) :=
  OpenClaim.holds_of_wide 3 Try.f3 rfl rfl rfl rfl rfl rfl rfl ⟨rfl, rfl, rfl, rfl, rfl⟩ rfl rfl rfl rfl rfl (by kernel_rfl) Try.func3 (by kernel_rfl)
    (of_decide_eq_true (by kernel_rfl)) (by unfold Func.isWrapper; first | (rw [if_pos (by decide +kernel)]; kernel_rfl) | (rw [if_neg (by decide +kernel)]; exact ⟨rfl, rfl⟩))
    (fun os started H enc _ => lifted os started H enc)

/-- ████ THE STATEMENT ████ -/
theorem proved : Rows.HeadGrowsSaid :=
  over
#print axioms proved
end Go.Proofs.Ytdfachjgnhljfaa.headGrows
