/- talk of a nil session; two zero messages are the same; ref15.Few. -/
import Derived.Test.YtokgpnkooigamaaDoorYaa
set_option maxRecDepth 100000
set_option linter.unusedVariables false
namespace Go.Proofs.YtokgpnkooigamaaDoor
open Go.RowKit
theorem up_nil (w : World) : Calls Tryd.prog 10 #[.pointer none] w fun e w' => e = .returned (.bool false) ∧ w = w' := by
  go_enter Tryd.func10, Tryd.ntmps10
  go_wp2
  go_ret
  exact ⟨rfl, rfl⟩
theorem code_nil (w : World) : Calls Tryd.prog 14 #[.pointer none] w fun e w' => e = .returned (.int .u64 0) ∧ w = w' := by
  go_enter Tryd.func14, Tryd.ntmps14
  go_wp2
  go_ret
  exact ⟨rfl, rfl⟩
theorem out_nil (w : World) : Calls Tryd.prog 12 #[.pointer none] w fun e w' => e = .returned (.slice none 0 0) ∧ w = w' := by
  go_enter Tryd.func12, Tryd.ntmps12
  go_wp2
  go_ret
  exact ⟨rfl, rfl⟩
theorem asks_nil (w : World) (b : Bool) : Calls Tryd.prog 16 #[.pointer none, .bool b] w fun e w' => e = .returned (.slice none 0 0) ∧ w = w' := by
  go_enter Tryd.func16, Tryd.ntmps16
  go_wp2
  go_ret
  exact ⟨rfl, rfl⟩
theorem finish_nil (w : World) (id : Nat) (b : Bool) : Calls Tryd.prog 19 #[.pointer none, .int .u64 (id : Int), .bool b] w fun e w' => e = .returned (.int .i64 6) ∧ w = w' := by
  go_enter Tryd.func19, Tryd.ntmps19
  go_wp2
  go_ret
  exact ⟨rfl, rfl⟩
def Z16 : List Value := [.int .u64 0, .int .u64 0, .int .u64 0, .slice none 0 0, .int .u8 0, .int .u8 0, .int .u64 0, .int .u64 0, .int .u64 0, .int .u64 0, .bool false, .int .u64 0, .slice none 0 0, .int .u64 0, .int .u64 0, .slice none 0 0]
theorem rless0 (w : World) : Calls Tryd.prog 27 #[.agg #[.int .u64 0, .int .u64 0], .agg #[.int .u64 0, .int .u64 0]] w fun e w' => e = .returned (.bool false) ∧ Below w.heap.size w w' := by
  have hb := (below_alloc w (.cells #[.int .u64 0, .int .u64 0] 29)).alloc (by simp) (.cells #[.int .u64 0, .int .u64 0] 29)
  have HB := Lib.hid hb
  clear hb
  go_enter Tryd.func27, Tryd.ntmps27
  go_wp2
  go_ret
  exact ⟨rfl, HB.out⟩
theorem rsame0 (w : World) : Calls Tryd.prog 28 #[.slice none 0 0, .slice none 0 0] w fun e w' => e = .returned (.bool true) ∧ w = w' := by
  have hx : BS w none 0 0 [] := RS_nil _ _
  go_enter Tryd.func28, Tryd.ntmps28
  go_wp2_with (first | (refine L_string tB Tryd.underlying5 9 Tryd.underlying9 hx _ rfl rfl rfl ?_))
  go_ret
  exact ⟨rfl, rfl⟩
set_option maxHeartbeats 8000000 in
theorem same0 (w : World) : Calls Tryd.prog 18 #[.agg Z16.toArray, .agg Z16.toArray] w fun e w' => e = .returned (.bool true) ∧ Below w.heap.size w w' := by
  have hb0 := below_alloc w (.cells Z16.toArray 35)
  have hb1 := below_alloc (w.alloc (.cells Z16.toArray 35)) (.cells Z16.toArray 35)
  have hr0 := (CR.new w 35 Z16).bel hb1
  have hr1 := CR.new (w.alloc (.cells Z16.toArray 35)) 35 Z16
  obtain ⟨k, hk⟩ : ∃ k, w.heap.size = k := ⟨_, rfl⟩
  have hk1 : (w.alloc (.cells Z16.toArray 35)).heap.size = k + 1 := by simp [hk]
  rw [hk1] at hr1
  rw [hk] at hr0
  have hb : Below w.heap.size w ((w.alloc (.cells Z16.toArray 35)).alloc (.cells Z16.toArray 35)) := btr hb0 hb1
  have HRs := Lib.hid (fun (j : Nat) (h : j = k ∨ j = k + 1) (x : World) (b : Below ((w.alloc (.cells Z16.toArray 35)).alloc (.cells Z16.toArray 35)).heap.size ((w.alloc (.cells Z16.toArray 35)).alloc (.cells Z16.toArray 35)) x) => (show CR x j 35 Z16 from by
    rcases h with rfl | rfl
    · exact hr0.bel b
    · exact hr1.bel b))
  have HB := Lib.hid hb
  clear hb hb0 hb1 hr0 hr1 hk1
  unfold Z16 at HRs HB ⊢
  obtain ⟨W, hW⟩ : ∃ x, (w.alloc (.cells [Value.int .u64 0, .int .u64 0, .int .u64 0, .slice none 0 0, .int .u8 0, .int .u8 0, .int .u64 0, .int .u64 0, .int .u64 0, .int .u64 0, .bool false, .int .u64 0, .slice none 0 0, .int .u64 0, .int .u64 0, .slice none 0 0].toArray 35)).alloc (.cells [Value.int .u64 0, .int .u64 0, .int .u64 0, .slice none 0 0, .int .u8 0, .int .u8 0, .int .u64 0, .int .u64 0, .int .u64 0, .int .u64 0, .bool false, .int .u64 0, .slice none 0 0, .int .u64 0, .int .u64 0, .slice none 0 0].toArray 35) = x := ⟨_, rfl⟩
  rw [hW] at HRs HB
  have HC := Lib.hid (fun (x : World) (b : Below W.heap.size W x) => (fun (i : Nat) => (⟨(HRs.out k (.inl rfl) x b).at_ i, (HRs.out (k + 1) (.inr rfl) x b).at_ i⟩ : x.cell? ⟨k, i, none⟩ = _ ∧ x.cell? ⟨k + 1, i, none⟩ = _)))
  have a0 : W.cell? ⟨k, 0, none⟩ = some (.int .u64 0) := (HC.out W (Below.refl _ _) 0).1
  have b0 : W.cell? ⟨k + 1, 0, none⟩ = some (.int .u64 0) := (HC.out W (Below.refl _ _) 0).2
  have a1 : W.cell? ⟨k, 1, none⟩ = some (.int .u64 0) := (HC.out W (Below.refl _ _) 1).1
  have b1 : W.cell? ⟨k + 1, 1, none⟩ = some (.int .u64 0) := (HC.out W (Below.refl _ _) 1).2
  have a2 : W.cell? ⟨k, 2, none⟩ = some (.int .u64 0) := (HC.out W (Below.refl _ _) 2).1
  have b2 : W.cell? ⟨k + 1, 2, none⟩ = some (.int .u64 0) := (HC.out W (Below.refl _ _) 2).2
  have a3 : W.cell? ⟨k, 3, none⟩ = some (.slice none 0 0) := (HC.out W (Below.refl _ _) 3).1
  have b3 : W.cell? ⟨k + 1, 3, none⟩ = some (.slice none 0 0) := (HC.out W (Below.refl _ _) 3).2
  have a4 : W.cell? ⟨k, 4, none⟩ = some (.int .u8 0) := (HC.out W (Below.refl _ _) 4).1
  have b4 : W.cell? ⟨k + 1, 4, none⟩ = some (.int .u8 0) := (HC.out W (Below.refl _ _) 4).2
  have a5 : W.cell? ⟨k, 5, none⟩ = some (.int .u8 0) := (HC.out W (Below.refl _ _) 5).1
  have b5 : W.cell? ⟨k + 1, 5, none⟩ = some (.int .u8 0) := (HC.out W (Below.refl _ _) 5).2
  have a6 : W.cell? ⟨k, 6, none⟩ = some (.int .u64 0) := (HC.out W (Below.refl _ _) 6).1
  have b6 : W.cell? ⟨k + 1, 6, none⟩ = some (.int .u64 0) := (HC.out W (Below.refl _ _) 6).2
  have a7 : W.cell? ⟨k, 7, none⟩ = some (.int .u64 0) := (HC.out W (Below.refl _ _) 7).1
  have b7 : W.cell? ⟨k + 1, 7, none⟩ = some (.int .u64 0) := (HC.out W (Below.refl _ _) 7).2
  have a8 : W.cell? ⟨k, 8, none⟩ = some (.int .u64 0) := (HC.out W (Below.refl _ _) 8).1
  have b8 : W.cell? ⟨k + 1, 8, none⟩ = some (.int .u64 0) := (HC.out W (Below.refl _ _) 8).2
  have a9 : W.cell? ⟨k, 9, none⟩ = some (.int .u64 0) := (HC.out W (Below.refl _ _) 9).1
  have b9 : W.cell? ⟨k + 1, 9, none⟩ = some (.int .u64 0) := (HC.out W (Below.refl _ _) 9).2
  have a10 : W.cell? ⟨k, 10, none⟩ = some (.bool false) := (HC.out W (Below.refl _ _) 10).1
  have b10 : W.cell? ⟨k + 1, 10, none⟩ = some (.bool false) := (HC.out W (Below.refl _ _) 10).2
  have a11 : W.cell? ⟨k, 11, none⟩ = some (.int .u64 0) := (HC.out W (Below.refl _ _) 11).1
  have b11 : W.cell? ⟨k + 1, 11, none⟩ = some (.int .u64 0) := (HC.out W (Below.refl _ _) 11).2
  have a12 : W.cell? ⟨k, 12, none⟩ = some (.slice none 0 0) := (HC.out W (Below.refl _ _) 12).1
  have b12 : W.cell? ⟨k + 1, 12, none⟩ = some (.slice none 0 0) := (HC.out W (Below.refl _ _) 12).2
  have a13 : W.cell? ⟨k, 13, none⟩ = some (.int .u64 0) := (HC.out W (Below.refl _ _) 13).1
  have b13 : W.cell? ⟨k + 1, 13, none⟩ = some (.int .u64 0) := (HC.out W (Below.refl _ _) 13).2
  have a14 : W.cell? ⟨k, 14, none⟩ = some (.int .u64 0) := (HC.out W (Below.refl _ _) 14).1
  have b14 : W.cell? ⟨k + 1, 14, none⟩ = some (.int .u64 0) := (HC.out W (Below.refl _ _) 14).2
  have a15 : W.cell? ⟨k, 15, none⟩ = some (.slice none 0 0) := (HC.out W (Below.refl _ _) 15).1
  have b15 : W.cell? ⟨k + 1, 15, none⟩ = some (.slice none 0 0) := (HC.out W (Below.refl _ _) 15).2
  go_enter Tryd.func18, Tryd.ntmps18
  go_upto_region 4 with fail
  refine wp_loop_once ?_
  go_wp2_with (first
    | (go_at_call 27; (with_reducible refine (rless0 W).mono ?_); rintro y W1 ⟨rfl, b⟩; have B1 := Lib.hid b; clear b; have a6_1 : W1.cell? ⟨k, 6, none⟩ = some (.int .u64 0) := (HC.out W1 B1.out 6).1; have b6_1 : W1.cell? ⟨k + 1, 6, none⟩ = some (.int .u64 0) := (HC.out W1 B1.out 6).2; have a7_1 : W1.cell? ⟨k, 7, none⟩ = some (.int .u64 0) := (HC.out W1 B1.out 7).1; have b7_1 : W1.cell? ⟨k + 1, 7, none⟩ = some (.int .u64 0) := (HC.out W1 B1.out 7).2; have a8_1 : W1.cell? ⟨k, 8, none⟩ = some (.int .u64 0) := (HC.out W1 B1.out 8).1; have b8_1 : W1.cell? ⟨k + 1, 8, none⟩ = some (.int .u64 0) := (HC.out W1 B1.out 8).2; have a9_1 : W1.cell? ⟨k, 9, none⟩ = some (.int .u64 0) := (HC.out W1 B1.out 9).1; have b9_1 : W1.cell? ⟨k + 1, 9, none⟩ = some (.int .u64 0) := (HC.out W1 B1.out 9).2; have a3_1 : W1.cell? ⟨k, 3, none⟩ = some (.slice none 0 0) := (HC.out W1 B1.out 3).1; have b3_1 : W1.cell? ⟨k + 1, 3, none⟩ = some (.slice none 0 0) := (HC.out W1 B1.out 3).2; have a12_1 : W1.cell? ⟨k, 12, none⟩ = some (.slice none 0 0) := (HC.out W1 B1.out 12).1; have b12_1 : W1.cell? ⟨k + 1, 12, none⟩ = some (.slice none 0 0) := (HC.out W1 B1.out 12).2)
    | (go_at_call 27; (with_reducible refine (rless0 W1).mono ?_); rintro y W2 ⟨rfl, b⟩; have B2 := Lib.hid (btr B1.out b); clear b; have a6_2 : W2.cell? ⟨k, 6, none⟩ = some (.int .u64 0) := (HC.out W2 B2.out 6).1; have b6_2 : W2.cell? ⟨k + 1, 6, none⟩ = some (.int .u64 0) := (HC.out W2 B2.out 6).2; have a7_2 : W2.cell? ⟨k, 7, none⟩ = some (.int .u64 0) := (HC.out W2 B2.out 7).1; have b7_2 : W2.cell? ⟨k + 1, 7, none⟩ = some (.int .u64 0) := (HC.out W2 B2.out 7).2; have a8_2 : W2.cell? ⟨k, 8, none⟩ = some (.int .u64 0) := (HC.out W2 B2.out 8).1; have b8_2 : W2.cell? ⟨k + 1, 8, none⟩ = some (.int .u64 0) := (HC.out W2 B2.out 8).2; have a9_2 : W2.cell? ⟨k, 9, none⟩ = some (.int .u64 0) := (HC.out W2 B2.out 9).1; have b9_2 : W2.cell? ⟨k + 1, 9, none⟩ = some (.int .u64 0) := (HC.out W2 B2.out 9).2; have a3_2 : W2.cell? ⟨k, 3, none⟩ = some (.slice none 0 0) := (HC.out W2 B2.out 3).1; have b3_2 : W2.cell? ⟨k + 1, 3, none⟩ = some (.slice none 0 0) := (HC.out W2 B2.out 3).2; have a12_2 : W2.cell? ⟨k, 12, none⟩ = some (.slice none 0 0) := (HC.out W2 B2.out 12).1; have b12_2 : W2.cell? ⟨k + 1, 12, none⟩ = some (.slice none 0 0) := (HC.out W2 B2.out 12).2)
    | (go_at_call 27; (with_reducible refine (rless0 W2).mono ?_); rintro y W3 ⟨rfl, b⟩; have B3 := Lib.hid (btr B2.out b); clear b; have a6_3 : W3.cell? ⟨k, 6, none⟩ = some (.int .u64 0) := (HC.out W3 B3.out 6).1; have b6_3 : W3.cell? ⟨k + 1, 6, none⟩ = some (.int .u64 0) := (HC.out W3 B3.out 6).2; have a7_3 : W3.cell? ⟨k, 7, none⟩ = some (.int .u64 0) := (HC.out W3 B3.out 7).1; have b7_3 : W3.cell? ⟨k + 1, 7, none⟩ = some (.int .u64 0) := (HC.out W3 B3.out 7).2; have a8_3 : W3.cell? ⟨k, 8, none⟩ = some (.int .u64 0) := (HC.out W3 B3.out 8).1; have b8_3 : W3.cell? ⟨k + 1, 8, none⟩ = some (.int .u64 0) := (HC.out W3 B3.out 8).2; have a9_3 : W3.cell? ⟨k, 9, none⟩ = some (.int .u64 0) := (HC.out W3 B3.out 9).1; have b9_3 : W3.cell? ⟨k + 1, 9, none⟩ = some (.int .u64 0) := (HC.out W3 B3.out 9).2; have a3_3 : W3.cell? ⟨k, 3, none⟩ = some (.slice none 0 0) := (HC.out W3 B3.out 3).1; have b3_3 : W3.cell? ⟨k + 1, 3, none⟩ = some (.slice none 0 0) := (HC.out W3 B3.out 3).2; have a12_3 : W3.cell? ⟨k, 12, none⟩ = some (.slice none 0 0) := (HC.out W3 B3.out 12).1; have b12_3 : W3.cell? ⟨k + 1, 12, none⟩ = some (.slice none 0 0) := (HC.out W3 B3.out 12).2)
    | (go_at_call 27; (with_reducible refine (rless0 W3).mono ?_); rintro y W4 ⟨rfl, b⟩; have B4 := Lib.hid (btr B3.out b); clear b; have a6_4 : W4.cell? ⟨k, 6, none⟩ = some (.int .u64 0) := (HC.out W4 B4.out 6).1; have b6_4 : W4.cell? ⟨k + 1, 6, none⟩ = some (.int .u64 0) := (HC.out W4 B4.out 6).2; have a7_4 : W4.cell? ⟨k, 7, none⟩ = some (.int .u64 0) := (HC.out W4 B4.out 7).1; have b7_4 : W4.cell? ⟨k + 1, 7, none⟩ = some (.int .u64 0) := (HC.out W4 B4.out 7).2; have a8_4 : W4.cell? ⟨k, 8, none⟩ = some (.int .u64 0) := (HC.out W4 B4.out 8).1; have b8_4 : W4.cell? ⟨k + 1, 8, none⟩ = some (.int .u64 0) := (HC.out W4 B4.out 8).2; have a9_4 : W4.cell? ⟨k, 9, none⟩ = some (.int .u64 0) := (HC.out W4 B4.out 9).1; have b9_4 : W4.cell? ⟨k + 1, 9, none⟩ = some (.int .u64 0) := (HC.out W4 B4.out 9).2; have a3_4 : W4.cell? ⟨k, 3, none⟩ = some (.slice none 0 0) := (HC.out W4 B4.out 3).1; have b3_4 : W4.cell? ⟨k + 1, 3, none⟩ = some (.slice none 0 0) := (HC.out W4 B4.out 3).2; have a12_4 : W4.cell? ⟨k, 12, none⟩ = some (.slice none 0 0) := (HC.out W4 B4.out 12).1; have b12_4 : W4.cell? ⟨k + 1, 12, none⟩ = some (.slice none 0 0) := (HC.out W4 B4.out 12).2)
    | (go_at_call 28; (with_reducible refine (rsame0 W4).mono ?_); rintro y W5 ⟨rfl, rfl⟩))
  go_ret
  exact ⟨rfl, btr HB.out B4.out⟩
end Go.Proofs.YtokgpnkooigamaaDoor
