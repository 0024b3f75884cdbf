/- vint.TakeText. -/
import Derived.Test.YtkhcpnmbhbhcgaaDoorYae
import Derived.Test.YtkhcpnmbhbhcgaaDoorYaj
import Derived.Deep.RegionHeld3
set_option maxRecDepth 100000
set_option linter.unusedVariables false
namespace Go.Proofs.YtkhcpnmbhbhcgaaDoor
open Go.RowKit Go.Joins Go.Lib
theorem runK_l {W0 : World} {a : Option Addr} {n c : Nat} {xs : List UInt8} (hx : BS W0 a n c xs) (k : IntKind) (i : Nat) (hi : i ≤ n) :
    ∃ a', BS W0 a' (n - i) (c - i) (xs.drop i) ∧ ∀ W, (Instr.slice 22 (.slice a n c) (some (.int k (i : Int))) none none).run Tryd.prog W = .ok (.slice a' (n - i) (c - i)) W := by
  obtain ⟨a', h1, _⟩ := runB_l hx i hi
  have hle := RS.le hx
  have h := RS.cut hx i n c hi (Nat.le_refl _) hle (Nat.le_refl _)
  refine ⟨if c = i then a else a.map (·.add (i * 1)), ?_, fun W => ?_⟩
  · have e : ((xs.map B).drop (i * 1)).take ((n - i) * 1) = (xs.drop i).map B := by
      have hl := BS.len hx
      rw [List.take_of_length_le (by simp; omega), Nat.mul_one, List.map_drop]
    rw [e] at h
    exact h
  · have hz : (Go.sizeOf (Tryd.prog.elem 22)).run Tryd.prog W = .ok 1 W := tB.sizeOf
    rw [run_slice_l W 22 _ _ _ tB.und' k _ (by omega) (by omega), hz]
    simp only [Result.andThen, Int.toNat_natCast]
    rw [sliced_eq]
theorem runK_h {W0 : World} {a : Option Addr} {n c : Nat} {xs : List UInt8} (hx : BS W0 a n c xs) (k : IntKind) (j : Nat) (hj : j ≤ n) :
    BS W0 a j c (xs.take j) ∧ ∀ W, (Instr.slice 22 (.slice a n c) none (some (.int k (j : Int))) none).run Tryd.prog W = .ok (.slice a j c) W := by
  have hle := RS.le hx
  refine ⟨(runB_h hx j hj).1, fun W => ?_⟩
  have hz : (Go.sizeOf (Tryd.prog.elem 22)).run Tryd.prog W = .ok 1 W := tB.sizeOf
  rw [run_slice_h W 22 _ _ _ tB.und' k _ (by omega) (by omega), hz]
  simp only [Result.andThen, Int.toNat_natCast]
  rw [sliced_eq]
  split <;> cases a <;> simp [Addr.add]
theorem takeS_le {p r : List UInt8} {v : Nat} (h : takeS p = some (v, r)) : r.length ≤ p.length := by
  cases p with
  | nil => cases h
  | cons b bs =>
    rw [takeS_cons] at h
    split at h
    · cases h
    · injection h with h
      injection h with _ h2
      rw [← h2, List.length_drop]
      exact Nat.sub_le _ _
/-- the text in front, and what stands behind it; or none -/
def ttS (p : List UInt8) (most : Nat) : Option (List UInt8 × List UInt8) :=
  match takeS p with
  | none => none
  | some (n, r) => if most < n ∨ r.length < n then none else some (r.take n, r.drop n)
def TTPost (w : World) (p : List UInt8) (most : Nat) (e : Ending) (w' : World) : Prop :=
  match ttS p most with
  | none => ∃ k : Int, k ≠ 0 ∧ e = .returned (.tuple #[.slice none 0 0, .slice none 0 0, .int .i64 k]) ∧ Below w.heap.size w w'
  | some (t, r) => ∃ a1 c1 a2 c2, e = .returned (.tuple #[.slice a1 t.length c1, .slice a2 r.length c2, .int .i64 0]) ∧ OW w' w.heap.size 5 1 a1 t.length c1 (t.map B) ∧ OW w' w.heap.size 5 1 a2 r.length c2 (r.map B) ∧ Below w.heap.size w w'
set_option maxHeartbeats 2000000 in
theorem vttext_any (w : World) {a : Option Addr} {n c : Nat} {p : List UInt8} (hx : BS w a n c p) (hn : n ≤ 140737488355328) (most : Nat) (hm : most ≤ 1099511627776) :
    Calls Tryd.prog 36 #[.slice a n c, .int .i64 (most : Int)] w (TTPost w p most) := by
  have ht := takep_any w p hx hn
  have hpl := BS.len hx
  unfold TTPost ttS
  cases hT : takeS p with
  | none =>
    have ht2 : Calls Tryd.prog 35 #[.slice a n c] w fun e w' => e = .returned (.tuple #[.int .u64 0, .slice none 0 0, .int .i64 2]) ∧ Below w.heap.size w w' := ht.mono fun e w' h => by unfold TakePost at h; rw [hT] at h; exact h
    have H := Lib.hid ht2
    dsimp only
    clear ht ht2 hx
    go_enter Tryd.func36, Tryd.ntmps36
    go_wp2_with (go_at_call 35; refine H.out.mono ?_; rintro x w1 ⟨rfl, B1⟩)
    go_ret3
    exact ⟨2, by decide, rfl, B1⟩
  | some nr =>
    obtain ⟨v, r⟩ := nr
    have ht2 : Calls Tryd.prog 35 #[.slice a n c] w fun e w' => ∃ a' c', e = .returned (.tuple #[.int .u64 (v : Int), .slice a' r.length c', .int .i64 0]) ∧ OW w' w.heap.size 5 1 a' r.length c' (r.map B) ∧ Below w.heap.size w w' := ht.mono fun e w' h => by unfold TakePost at h; rw [hT] at h; exact h
    have H := Lib.hid ht2
    clear ht ht2
    dsimp only
    obtain ⟨m, hm'⟩ : ∃ m, r.length = m := ⟨_, rfl⟩
    rw [hm'] at H ⊢
    by_cases c1 : most < v
    · rw [if_pos (.inl c1)]
      dsimp only
      clear hx
      go_enter Tryd.func36, Tryd.ntmps36
      go_wp2_with (go_at_call 35; refine H.out.mono ?_; rintro x w1 ⟨a1, c1, rfl, o1, B1⟩)
      go_ret3
      exact ⟨3, by decide, rfl, B1⟩
    · by_cases c2 : m < v
      · rw [if_pos (.inr c2)]
        dsimp only
        clear hx
        go_enter Tryd.func36, Tryd.ntmps36
        go_wp2_with (go_at_call 35; refine H.out.mono ?_; rintro x w1 ⟨a1, c1, rfl, o1, B1⟩)
        go_ret3
        exact ⟨2, by decide, rfl, B1⟩
      · rw [if_neg (by omega)]
        dsimp only
        have e1 : (r.take v).length = v := by rw [List.length_take]; omega
        have e2 : (r.drop v).length = m - v := by rw [List.length_drop]; omega
        rw [e1, e2]
        clear hx
        have hrm : m ≤ p.length := by rw [← hm']; exact takeS_le hT
        have HL := Lib.hid hm'
        clear hT e1 e2 hm'
        go_enter Tryd.func36, Tryd.ntmps36
        go_upto_region 8 with (go_at_call 35; refine H.out.mono ?_; rintro x w1 ⟨a1, c1, rfl, o1, B1⟩)
        obtain ⟨V, hV⟩ : ∃ V, w1.drew = V := ⟨_, rfl⟩
        have hr := o1.rs
        have hBS : BS V a1 m c1 r := by rw [← hV]; exact hr
        obtain ⟨hT1, hq1⟩ := runK_h hBS .u64 v (by omega)
        obtain ⟨a2, hT2, hq2⟩ := runK_l hBS .u64 v (by omega)
        have HT1 := Lib.hid hT1
        have HT2 := Lib.hid hT2
        have HBV := Lib.hid (show Below w.heap.size w V by rw [← hV]; exact B1.drew)
        have b0 : Below V.heap.size V V := Below.refl _ _
        clear hr hBS hT1 hT2 o1 B1 H
        refine wp_region_held_drew (S := fun _ => True) (by kernel_rfl) trivial (fun hHeld => ?_)
        rw [hV]
        refine wpAnyH_take (i := 0) (v := .slice a1 m c1) rfl (by kernel_rfl) (by kernel_rfl) (by kernel_rfl) (fun _ _ _ h => h) (Or.inl ⟨by rfl, fun w h => by go_simp⟩) hHeld ?_
        try simp only [Act.put, List.getElem_toArray, List.getElem_cons_zero, List.setIfInBounds_toArray, List.set_cons_zero, List.set_cons_succ]
        refine wpAnyH_take (i := 1) (v := .int .u64 (v : Int)) rfl (by kernel_rfl) (by kernel_rfl) (by kernel_rfl) (fun _ _ _ h => h) (Or.inl ⟨by rfl, fun w h => by go_simp⟩) hHeld ?_
        try simp only [Act.put, List.getElem_toArray, List.getElem_cons_succ, List.getElem_cons_zero, List.setIfInBounds_toArray, List.set_cons_zero, List.set_cons_succ]
        refine wpAnyH_take (i := 2) (v := .slice a1 v c1) rfl (by kernel_rfl) (by kernel_rfl) (by kernel_rfl) (fun _ _ _ h => h) (Or.inl ⟨by rfl, fun w h => by go_simp⟩) hHeld ?_
        try simp only [Act.put, List.getElem_toArray, List.getElem_cons_succ, List.getElem_cons_zero, List.setIfInBounds_toArray, List.set_cons_zero, List.set_cons_succ]
        refine wpAnyH_take (i := 4) (v := .slice a1 m c1) rfl (by kernel_rfl) (by kernel_rfl) (by kernel_rfl) (fun _ _ _ h => h) (Or.inl ⟨by rfl, fun w h => by go_simp⟩) hHeld ?_
        try simp only [Act.put, List.getElem_toArray, List.getElem_cons_succ, List.getElem_cons_zero, List.setIfInBounds_toArray, List.set_cons_zero, List.set_cons_succ]
        refine wpAnyH_take (i := 5) (v := .int .u64 (v : Int)) rfl (by kernel_rfl) (by kernel_rfl) (by kernel_rfl) (fun _ _ _ h => h) (Or.inl ⟨by rfl, fun w h => by go_simp⟩) hHeld ?_
        try simp only [Act.put, List.getElem_toArray, List.getElem_cons_succ, List.getElem_cons_zero, List.setIfInBounds_toArray, List.set_cons_zero, List.set_cons_succ]
        refine wpAnyH_take (i := 6) (v := .slice a2 (m - v) (c1 - v)) rfl (by kernel_rfl) (by kernel_rfl) (by kernel_rfl) (fun _ _ _ h => h) (Or.inl ⟨by rfl, fun w h => by go_simp⟩) hHeld ?_
        try simp only [Act.put, List.getElem_toArray, List.getElem_cons_succ, List.getElem_cons_zero, List.setIfInBounds_toArray, List.set_cons_zero, List.set_cons_succ]
        refine wpAnyH_ready (rs := [3]) (by kernel_rfl) (by simp) (AllReadyH.cons rfl (fun K hK => ?_) AllReadyH.nil)
        go_simp
        go_at_call 25
        refine ((clone_any V (RS.below HT1.out b0 (Nat.le_refl _)) (by omega))).mono ?_
        rintro x va1 ⟨a3, c3, rfl, o3, Ba3⟩
        have ba2 := b0.trans (Ba3.mono b0.size)
        have ha4 : OW va1 V.heap.size 5 1 a3 v c3 ((r.take v).map B) := o3.mono b0.size
        refine hK.out _ _ (trivial) (fun hHeld => ?_)
        clear hK K
        try simp only [Act.put, List.getElem_toArray, List.getElem_cons_succ, List.getElem_cons_zero, List.setIfInBounds_toArray, List.set_cons_zero, List.set_cons_succ]
        refine wpAnyH_ready (rs := [7]) (by kernel_rfl) (by simp) (AllReadyH.cons rfl (fun K hK => ?_) AllReadyH.nil)
        go_simp
        go_at_call 25
        refine ((clone_any va1 (RS.below HT2.out ba2 (Nat.le_refl _)) (by omega))).mono ?_
        rintro x va5 ⟨a4, c4, rfl, o4, Ba7⟩
        have ba6 := ba2.trans (Ba7.mono ba2.size)
        have ha8 := ha4.below Ba7 (Nat.le_refl _)
        have ha9 : OW va5 V.heap.size 5 1 a4 (m - v) c4 ((r.drop v).map B) := o4.mono ba2.size
        refine hK.out _ _ (trivial) (fun hHeld => ?_)
        clear hK K
        try simp only [Act.put, List.getElem_toArray, List.getElem_cons_succ, List.getElem_cons_zero, List.setIfInBounds_toArray, List.set_cons_zero, List.set_cons_succ]
        refine wpAnyH_take (i := 8) (v := .slice a3 v c3) rfl (by kernel_rfl) (by kernel_rfl) (by kernel_rfl) (fun _ _ _ h => h) (Or.inl ⟨by rfl, fun w h => by go_simp⟩) hHeld ?_
        try simp only [Act.put, List.getElem_toArray, List.getElem_cons_succ, List.getElem_cons_zero, List.setIfInBounds_toArray, List.set_cons_zero, List.set_cons_succ]
        refine wpAnyH_take (i := 9) (v := .slice a4 (m - v) c4) rfl (by kernel_rfl) (by kernel_rfl) (by kernel_rfl) (fun _ _ _ h => h) (Or.inl ⟨by rfl, fun w h => by go_simp⟩) hHeld ?_
        try simp only [Act.put, List.getElem_toArray, List.getElem_cons_succ, List.getElem_cons_zero, List.setIfInBounds_toArray, List.set_cons_zero, List.set_cons_succ]
        refine wpAnyH_take (i := 10) (v := .int .i64 0) rfl (by kernel_rfl) (by kernel_rfl) (by kernel_rfl) (fun _ _ _ h => h) (Or.inl ⟨by rfl, fun w h => by go_simp⟩) hHeld ?_
        try simp only [Act.put, List.getElem_toArray, List.getElem_cons_succ, List.getElem_cons_zero, List.setIfInBounds_toArray, List.set_cons_zero, List.set_cons_succ]
        refine wpAnyH_done (by kernel_rfl) ?_ _
        try simp only [Act.put, List.getElem_toArray, List.getElem_cons_succ, List.getElem_cons_zero]
        go_wp2
        go_ret3
        exact ⟨a3, c3, a4, c4, rfl, ha8.mono HBV.out.size, ha9.mono HBV.out.size, HBV.out.trans (ba6.mono HBV.out.size)⟩
end Go.Proofs.YtkhcpnmbhbhcgaaDoor
