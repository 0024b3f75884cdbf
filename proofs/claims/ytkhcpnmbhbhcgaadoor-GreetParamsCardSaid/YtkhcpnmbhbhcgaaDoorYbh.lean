/- Greet's reference: texts, messages, keys. -/
import Derived.Test.YtkhcpnmbhbhcgaaDoorYau
import Derived.Test.YtkhcpnmbhbhcgaaDoorYaw
import Derived.Test.YtkhcpnmbhbhcgaaDoorYaz
import Derived.Test.YtkhcpnmbhbhcgaaDoorYae
import Derived.Test.YtkhcpnmbhbhcgaaDoorYbg
set_option maxRecDepth 100000
set_option linter.unusedVariables false
namespace Go.Proofs.YtkhcpnmbhbhcgaaDoor
open Go.RowKit Go.Joins
theorem rsize_any (w : World) (n : Nat) (hn : n < 16384) :
    Calls Tryd.prog 55 #[.int .u64 (n : Int)] w fun e w' => e = .returned (.int .i64 (vsz n : Int)) ∧ w = w' := by
  unfold vsz
  by_cases h1 : n < 64
  · rw [if_pos h1]
    go_enter Tryd.func55, Tryd.ntmps55
    go_wp2
    go_ret
    exact ⟨rfl, rfl⟩
  · rw [if_neg h1]
    go_enter Tryd.func55, Tryd.ntmps55
    go_wp2
    go_ret
    exact ⟨rfl, rfl⟩
theorem rwide1 (w : World) (n : Nat) (hn : n < 64) :
    Calls Tryd.prog 56 #[.int .u64 (n : Int), .int .i64 1] w fun e w' => ∃ a c, e = .returned (.tuple #[.slice a 1 c, .int .i64 0]) ∧ OW w' w.heap.size 5 1 a 1 c ((numS n).map B) ∧ Below w.heap.size w w' := by
  have hs := rsize_any w n (by omega)
  rw [show vsz n = 1 by unfold vsz; rw [if_pos hn]] at hs
  have T := Lib.hid hs
  have hv : (numS n).map B = [.int .u8 (n : Int)] := by
    unfold numS
    rw [if_pos hn]
    simp only [List.map_cons, List.map_nil, B, UInt8.toNat_ofNat']
    rw [show ((n % 2 ^ 8 : Nat) : Int) = (n : Int) by omega]
  have Hv := Lib.hid hv
  clear hv hs
  go_enter Tryd.func56, Tryd.ntmps56
  go_wp2_with (go_at_call 55; refine T.out.mono ?_; rintro e w' ⟨rfl, rfl⟩)
  refine wp_loop_rounds 2 ?_
  rw [rounds_succ]
  go_wp2_with (at_builtin; refine L_append tB (OW_made _ w.heap.size _ 1 #[_] 1 (Nat.le_refl _) rfl (by unfold maxLen; omega) (by simp [Value.oneCell'])) (RS_nil _ _) _ _ rfl rfl rfl rfl (by omega) (by unfold maxLen; omega) (by simp) ?_; intro a1 c1 w1 o1 g1)
  have b1 : Below w.heap.size w w1 := (below_alloc w _).grown g1 (by simp) (by intro k hk; simp at hk; omega)
  have o3 : OW w1 w.heap.size 5 1 a1 1 c1 [.int .u8 ((n : Int) % 256)] := o1
  obtain ⟨g, rfl⟩ : ∃ g, a1 = some ⟨g, 0, none⟩ := by
    rcases o3.shape with ⟨_, h, _⟩ | ⟨g, cur, h, _⟩
    · cases h
    · exact ⟨g, h⟩
  have q3 : w1.cell? ⟨g, 0, none⟩ = some (.int .u8 ((n : Int) % 256)) := o3.cell 0 _ rfl
  have q4 : w1.frozen? ⟨g, 0, none⟩ = false := o3.frozen 0
  have hg := (o3.base_le rfl).1
  have hn1 : (n : Int) % 256 = (n : Int) := by omega
  have Hn1 := Lib.hid hn1
  have O3 := Lib.hid o3
  clear o1 g1 o3 hn1
  rw [rounds_succ]
  go_wp2
  go_ret2
  refine ⟨_, _, rfl, ?_, b1.setCell hg _⟩
  have o4 := O3.out.setCell 0 (.int .u8 ((n : Int) % 256)) rfl
  rw [Hv.out]
  simpa [Hn1.out] using o4
theorem rwide2 (w : World) (n : Nat) (hn : n < 16384) (h64 : 64 ≤ n) :
    Calls Tryd.prog 56 #[.int .u64 (n : Int), .int .i64 2] w fun e w' => ∃ a c, e = .returned (.tuple #[.slice a 2 c, .int .i64 0]) ∧ OW w' w.heap.size 5 1 a 2 c ((numS n).map B) ∧ Below w.heap.size w w' := by
  have hs := rsize_any w n hn
  rw [show vsz n = 2 by unfold vsz; rw [if_neg (by omega)]] at hs
  have T := Lib.hid hs
  have hv : (numS n).map B = [.int .u8 ((n : Int) / 256 % 256 + 64), .int .u8 ((n : Int) % 256)] := by
    unfold numS
    rw [if_neg (by omega)]
    simp only [List.map_cons, List.map_nil, B, UInt8.toNat_ofNat']
    rw [show (((n / 256 + 64) % 2 ^ 8 : Nat) : Int) = (n : Int) / 256 % 256 + 64 by omega, show ((n % 2 ^ 8 : Nat) : Int) = (n : Int) % 256 by omega]
  have Hv := Lib.hid hv
  clear hv hs
  go_enter Tryd.func56, Tryd.ntmps56
  go_wp2_with (go_at_call 55; refine T.out.mono ?_; rintro e w' ⟨rfl, rfl⟩)
  refine wp_loop_rounds 3 ?_
  rw [rounds_succ]
  go_wp2_with (at_builtin; refine L_append tB (OW_made _ w.heap.size _ 1 #[_] 1 (Nat.le_refl _) rfl (by unfold maxLen; omega) (by simp [Value.oneCell'])) (RS_nil _ _) _ _ rfl rfl rfl rfl (by omega) (by unfold maxLen; omega) (by simp) ?_; intro a1 c1 w1 o1 g1)
  have b1 : Below w.heap.size w w1 := (below_alloc w _).grown g1 (by simp) (by intro k hk; simp at hk; omega)
  rw [rounds_succ]
  go_wp2_with (at_builtin; refine L_append tB (OW_made _ w.heap.size _ 1 #[_] 1 b1.size rfl (by unfold maxLen; omega) (by simp [Value.oneCell'])) (o1.rs.alloc _) _ _ rfl rfl rfl rfl (by omega) (by unfold maxLen; omega) (by have := b1.size; simp; omega) ?_; intro a2 c2 w2 o2 g2)
  have b2 : Below w.heap.size w w2 := (b1.alloc b1.size _).grown g2 (by have := b1.size; simp; omega) (by intro k hk; simp at hk; have := b1.size; omega)
  have o3 : OW w2 w.heap.size 5 1 a2 2 c2 [.int .u8 ((n : Int) / 256 % 256), .int .u8 ((n : Int) % 256)] := o2
  obtain ⟨g, rfl⟩ : ∃ g, a2 = some ⟨g, 0, none⟩ := by
    rcases o3.shape with ⟨_, h, _⟩ | ⟨g, cur, h, _⟩
    · cases h
    · exact ⟨g, h⟩
  have q3 : w2.cell? ⟨g, 0, none⟩ = some (.int .u8 ((n : Int) / 256 % 256)) := o3.cell 0 _ rfl
  have q4 : w2.frozen? ⟨g, 0, none⟩ = false := o3.frozen 0
  have hg := (o3.base_le rfl).1
  have o4 := o3.setCell 0 (.int .u8 ((n : Int) / 256 % 256 + 64)) rfl
  have O4 := Lib.hid o4
  clear o1 o2 g1 g2 o3 o4 b1
  rw [rounds_succ]
  go_wp2
  go_ret2
  refine ⟨_, _, rfl, by rw [Hv.out]; exact O4.out, b2.setCell hg _⟩
theorem rnum_any (w : World) (n : Nat) (hn : n < 16384) :
    Calls Tryd.prog 42 #[.int .u64 (n : Int)] w fun e w' => ∃ a c, e = .returned (.tuple #[.slice a (vsz n) c, .int .i64 0]) ∧ OW w' w.heap.size 5 1 a (vsz n) c ((numS n).map B) ∧ Below w.heap.size w w' := by
  have hs := rsize_any w n hn
  by_cases h : n < 64
  · have e : vsz n = 1 := by unfold vsz; rw [if_pos h]
    rw [e] at hs ⊢
    have T := Lib.hid hs
    have T2 := Lib.hid (rwide1 w n h)
    clear hs e
    go_enter Tryd.func42, Tryd.ntmps42
    go_wp2_with (first | (go_at_call 55; refine T.out.mono ?_; rintro e w' ⟨rfl, rfl⟩) | (go_at_call 56; refine T2.out.mono ?_; rintro e w2 ⟨a, c, rfl, h1, h2⟩))
    go_ret2
    exact ⟨a, c, rfl, h1, h2⟩
  · have e : vsz n = 2 := by unfold vsz; rw [if_neg h]
    rw [e] at hs ⊢
    have T := Lib.hid hs
    have T2 := Lib.hid (rwide2 w n hn (by omega))
    clear hs e
    go_enter Tryd.func42, Tryd.ntmps42
    go_wp2_with (first | (go_at_call 55; refine T.out.mono ?_; rintro e w' ⟨rfl, rfl⟩) | (go_at_call 56; refine T2.out.mono ?_; rintro e w2 ⟨a, c, rfl, h1, h2⟩))
    go_ret2
    exact ⟨a, c, rfl, h1, h2⟩
theorem rtext_any (w : World) {a : Option Addr} {n c : Nat} {t : List UInt8} (hx : BS w a n c t) (hn : n < 16384) :
    Calls Tryd.prog 31 #[.slice a n c] w fun e w' => ∃ a' c', e = .returned (.slice a' (vsz n + n) c') ∧ OW w' w.heap.size 5 1 a' (vsz n + n) c' ((textS t).map B) ∧ Below w.heap.size w w' := by
  have T := Lib.hid (rnum_any w n hn)
  have hl := BS.len hx
  have HX := Lib.hid hx
  have e : textS t = numS n ++ t := by unfold textS; rw [hl]
  have HE := Lib.hid e
  have hv := vsz_bd n
  clear hx e
  go_enter Tryd.func31, Tryd.ntmps31
  go_wp2_with (first
    | (go_at_call 42; refine T.out.mono ?_; rintro x w1 ⟨a1, c1, rfl, o1, B1⟩; have hx1 := RS.below HX.out B1 (Nat.le_refl _))
    | (at_builtin; refine L_append tB o1 hx1 _ _ rfl rfl rfl rfl (by omega) (by unfold maxLen; omega) B1.size ?_; intro a2 c2 w2 o2 g2))
  go_ret
  refine ⟨a2, c2, rfl, ?_, below_own B1 o1 g2 (Nat.le_refl _) B1.size⟩
  rw [HE.out, List.map_append]; exact o2
set_option maxHeartbeats 2000000 in
theorem rttext_any (w : World) {a : Option Addr} {n c : Nat} {p : List UInt8} (hx : BS w a n c p) (hn : n ≤ 140737488355328) (most : Nat) (hm : most ≤ 1099511627776) :
    Calls Tryd.prog 34 #[.slice a n c, .int .i64 (most : Int)] w (TTPost w p most) := by
  have ht := taker_any w p hx hn
  have hpl := BS.len hx
  unfold TTPost ttS
  cases hT : takeS p with
  | none =>
    have ht2 : Calls Tryd.prog 38 #[.slice a n c] w fun e w' => e = .returned (.tuple #[.int .u64 0, .slice none 0 0, .int .i64 2]) ∧ Below w.heap.size w w' := ht.mono fun e w' h => by unfold TakePost at h; rw [hT] at h; exact h
    have H := Lib.hid ht2
    dsimp only
    clear ht ht2 hx
    go_enter Tryd.func34, Tryd.ntmps34
    go_wp2_with (go_at_call 38; refine H.out.mono ?_; rintro x w1 ⟨rfl, B1⟩)
    go_ret3
    exact ⟨2, by decide, rfl, B1⟩
  | some nr =>
    obtain ⟨v, r⟩ := nr
    have ht2 : Calls Tryd.prog 38 #[.slice a n c] w fun e w' => ∃ a' c', e = .returned (.tuple #[.int .u64 (v : Int), .slice a' r.length c', .int .i64 0]) ∧ OW w' w.heap.size 5 1 a' r.length c' (r.map B) ∧ Below w.heap.size w w' := ht.mono fun e w' h => by unfold TakePost at h; rw [hT] at h; exact h
    have H := Lib.hid ht2
    clear ht ht2
    dsimp only
    obtain ⟨m, hm'⟩ : ∃ m, r.length = m := ⟨_, rfl⟩
    rw [hm'] at H ⊢
    by_cases c1 : most < v
    · rw [if_pos (.inl c1)]
      dsimp only
      clear hx
      go_enter Tryd.func34, Tryd.ntmps34
      go_wp2_with (go_at_call 38; refine H.out.mono ?_; rintro x w1 ⟨a1, c1, rfl, o1, B1⟩)
      go_ret3
      exact ⟨3, by decide, rfl, B1⟩
    · by_cases c2 : m < v
      · rw [if_pos (.inr c2)]
        dsimp only
        clear hx
        go_enter Tryd.func34, Tryd.ntmps34
        go_wp2_with (go_at_call 38; refine H.out.mono ?_; rintro x w1 ⟨a1, c1, rfl, o1, B1⟩)
        go_ret3
        exact ⟨2, by decide, rfl, B1⟩
      · rw [if_neg (by omega)]
        dsimp only
        have e1 : (r.take v).length = v := by rw [List.length_take]; omega
        have e2 : (r.drop v).length = m - v := by rw [List.length_drop]; omega
        rw [e1, e2]
        clear hx
        have hrm : m ≤ p.length := by rw [← hm']; exact takeS_le hT
        have HL := Lib.hid hm'
        clear hT e1 e2 hm'
        go_enter Tryd.func34, Tryd.ntmps34
        go_upto_region 8 with (go_at_call 38; refine H.out.mono ?_; rintro x w1 ⟨a1, c1, rfl, o1, B1⟩)
        obtain ⟨V, hV⟩ : ∃ V, w1.drew = V := ⟨_, rfl⟩
        have hr := o1.rs
        have hBS : BS V a1 m c1 r := by rw [← hV]; exact hr
        obtain ⟨hT1, hq1⟩ := runK_h hBS .u64 v (by omega)
        obtain ⟨a2, hT2, hq2⟩ := runK_l hBS .u64 v (by omega)
        have HT1 := Lib.hid hT1
        have HT2 := Lib.hid hT2
        have HBV := Lib.hid (show Below w.heap.size w V by rw [← hV]; exact B1.drew)
        have b0 : Below V.heap.size V V := Below.refl _ _
        clear hr hBS hT1 hT2 o1 B1 H
        refine wp_region_held_drew (S := fun _ => True) (by kernel_rfl) trivial (fun hHeld => ?_)
        rw [hV]
        refine wpAnyH_take (i := 0) (v := .slice a1 m c1) rfl (by kernel_rfl) (by kernel_rfl) (by kernel_rfl) (fun _ _ _ h => h) (Or.inl ⟨by rfl, fun w h => by go_simp⟩) hHeld ?_
        try simp only [Act.put, List.getElem_toArray, List.getElem_cons_zero, List.setIfInBounds_toArray, List.set_cons_zero, List.set_cons_succ]
        refine wpAnyH_take (i := 1) (v := .int .u64 (v : Int)) rfl (by kernel_rfl) (by kernel_rfl) (by kernel_rfl) (fun _ _ _ h => h) (Or.inl ⟨by rfl, fun w h => by go_simp⟩) hHeld ?_
        try simp only [Act.put, List.getElem_toArray, List.getElem_cons_succ, List.getElem_cons_zero, List.setIfInBounds_toArray, List.set_cons_zero, List.set_cons_succ]
        refine wpAnyH_take (i := 2) (v := .slice a1 v c1) rfl (by kernel_rfl) (by kernel_rfl) (by kernel_rfl) (fun _ _ _ h => h) (Or.inl ⟨by rfl, fun w h => by go_simp⟩) hHeld ?_
        try simp only [Act.put, List.getElem_toArray, List.getElem_cons_succ, List.getElem_cons_zero, List.setIfInBounds_toArray, List.set_cons_zero, List.set_cons_succ]
        refine wpAnyH_take (i := 4) (v := .slice a1 m c1) rfl (by kernel_rfl) (by kernel_rfl) (by kernel_rfl) (fun _ _ _ h => h) (Or.inl ⟨by rfl, fun w h => by go_simp⟩) hHeld ?_
        try simp only [Act.put, List.getElem_toArray, List.getElem_cons_succ, List.getElem_cons_zero, List.setIfInBounds_toArray, List.set_cons_zero, List.set_cons_succ]
        refine wpAnyH_take (i := 5) (v := .int .u64 (v : Int)) rfl (by kernel_rfl) (by kernel_rfl) (by kernel_rfl) (fun _ _ _ h => h) (Or.inl ⟨by rfl, fun w h => by go_simp⟩) hHeld ?_
        try simp only [Act.put, List.getElem_toArray, List.getElem_cons_succ, List.getElem_cons_zero, List.setIfInBounds_toArray, List.set_cons_zero, List.set_cons_succ]
        refine wpAnyH_take (i := 6) (v := .slice a2 (m - v) (c1 - v)) rfl (by kernel_rfl) (by kernel_rfl) (by kernel_rfl) (fun _ _ _ h => h) (Or.inl ⟨by rfl, fun w h => by go_simp⟩) hHeld ?_
        try simp only [Act.put, List.getElem_toArray, List.getElem_cons_succ, List.getElem_cons_zero, List.setIfInBounds_toArray, List.set_cons_zero, List.set_cons_succ]
        refine wpAnyH_ready (rs := [3]) (by kernel_rfl) (by simp) (AllReadyH.cons rfl (fun K hK => ?_) AllReadyH.nil)
        go_simp
        go_at_call 20
        refine ((copy_any V (RS.below HT1.out b0 (Nat.le_refl _)) (by omega))).mono ?_
        rintro x va1 ⟨a3, c3, rfl, o3, Ba3⟩
        have ba2 := b0.trans (Ba3.mono b0.size)
        have ha4 : OW va1 V.heap.size 5 1 a3 v c3 ((r.take v).map B) := o3.mono b0.size
        refine hK.out _ _ (trivial) (fun hHeld => ?_)
        clear hK K
        try simp only [Act.put, List.getElem_toArray, List.getElem_cons_succ, List.getElem_cons_zero, List.setIfInBounds_toArray, List.set_cons_zero, List.set_cons_succ]
        refine wpAnyH_ready (rs := [7]) (by kernel_rfl) (by simp) (AllReadyH.cons rfl (fun K hK => ?_) AllReadyH.nil)
        go_simp
        go_at_call 20
        refine ((copy_any va1 (RS.below HT2.out ba2 (Nat.le_refl _)) (by omega))).mono ?_
        rintro x va5 ⟨a4, c4, rfl, o4, Ba7⟩
        have ba6 := ba2.trans (Ba7.mono ba2.size)
        have ha8 := ha4.below Ba7 (Nat.le_refl _)
        have ha9 : OW va5 V.heap.size 5 1 a4 (m - v) c4 ((r.drop v).map B) := o4.mono ba2.size
        refine hK.out _ _ (trivial) (fun hHeld => ?_)
        clear hK K
        try simp only [Act.put, List.getElem_toArray, List.getElem_cons_succ, List.getElem_cons_zero, List.setIfInBounds_toArray, List.set_cons_zero, List.set_cons_succ]
        refine wpAnyH_take (i := 8) (v := .slice a3 v c3) rfl (by kernel_rfl) (by kernel_rfl) (by kernel_rfl) (fun _ _ _ h => h) (Or.inl ⟨by rfl, fun w h => by go_simp⟩) hHeld ?_
        try simp only [Act.put, List.getElem_toArray, List.getElem_cons_succ, List.getElem_cons_zero, List.setIfInBounds_toArray, List.set_cons_zero, List.set_cons_succ]
        refine wpAnyH_take (i := 9) (v := .slice a4 (m - v) c4) rfl (by kernel_rfl) (by kernel_rfl) (by kernel_rfl) (fun _ _ _ h => h) (Or.inl ⟨by rfl, fun w h => by go_simp⟩) hHeld ?_
        try simp only [Act.put, List.getElem_toArray, List.getElem_cons_succ, List.getElem_cons_zero, List.setIfInBounds_toArray, List.set_cons_zero, List.set_cons_succ]
        refine wpAnyH_take (i := 10) (v := .int .i64 0) rfl (by kernel_rfl) (by kernel_rfl) (by kernel_rfl) (fun _ _ _ h => h) (Or.inl ⟨by rfl, fun w h => by go_simp⟩) hHeld ?_
        try simp only [Act.put, List.getElem_toArray, List.getElem_cons_succ, List.getElem_cons_zero, List.setIfInBounds_toArray, List.set_cons_zero, List.set_cons_succ]
        refine wpAnyH_done (by kernel_rfl) ?_ _
        try simp only [Act.put, List.getElem_toArray, List.getElem_cons_succ, List.getElem_cons_zero]
        go_wp2
        go_ret3
        exact ⟨a3, c3, a4, c4, rfl, ha8.mono HBV.out.size, ha9.mono HBV.out.size, HBV.out.trans (ba6.mono HBV.out.size)⟩
/-- a message -/
theorem rmsg_any (w : World) (k : Nat) (hk : k < 256) {a : Option Addr} {n c : Nat} {p : List UInt8} (hx : BS w a n c p) (hn : n ≤ 1099511627776) :
    Calls Tryd.prog 32 #[.int .u8 (k : Int), .slice a n c] w fun e w' => ∃ a' c', e = .returned (.slice a' (4 + n) c') ∧ OW w' w.heap.size 5 1 a' (4 + n) c' ((gmsg k p).map B) ∧ Below w.heap.size w w' := by
  have hl := BS.len hx
  have hv : (gmsg k p).map B = [.int .u8 (k : Int), .int .u8 ((n : Int) / 65536 % 256), .int .u8 ((n : Int) / 256 % 256), .int .u8 ((n : Int) % 256)] ++ p.map B := by
    unfold gmsg
    rw [hl, List.map_append]
    congr 1
    simp only [List.map_cons, List.map_nil, B, UInt8.toNat_ofNat']
    rw [show ((k % 2 ^ 8 : Nat) : Int) = (k : Int) by omega, show ((n / 65536 % 2 ^ 8 : Nat) : Int) = (n : Int) / 65536 % 256 by omega, show ((n / 256 % 2 ^ 8 : Nat) : Int) = (n : Int) / 256 % 256 by omega, show ((n % 2 ^ 8 : Nat) : Int) = (n : Int) % 256 by omega]
  have Hv := Lib.hid hv
  have HX := Lib.hid hx
  clear hv hx
  go_enter Tryd.func32, Tryd.ntmps32
  go_wp2_with (at_builtin; refine L_append tB (OW_made _ w.heap.size _ 1 #[_, _, _, _] 4 (Nat.le_refl _) rfl (by unfold maxLen; omega) (by simp [Value.oneCell'])) (RS.alloc HX.out _) _ _ rfl rfl rfl rfl (by omega) (by unfold maxLen; omega) (by simp) ?_; intro a1 c1 w1 o1 g1)
  have b1 : Below w.heap.size w w1 := (below_alloc w _).grown g1 (by simp) (by intro k hk; simp at hk; omega)
  have O1 := Lib.hid o1
  clear o1 g1
  go_ret
  refine ⟨_, _, rfl, ?_, b1⟩
  rw [Hv.out]
  simpa using O1.out
/-- a key of a key -/
theorem rkey_any (w : World) {a0 a2 : Option Addr} {n0 c0 n2 c2 : Nat} {key ctx : List UInt8} (s : ByteArray) (hk : BS w a0 n0 c0 key) (hc : BS w a2 n2 c2 ctx) (h0 : n0 ≤ 549755813888) (hs : s.size ≤ 249) (h2 : n2 ≤ 255) :
    Calls Tryd.prog 30 #[.slice a0 n0 c0, .string s, .slice a2 n2 c2] w fun e w' => ∃ a c, e = .returned (.slice a 32 c) ∧ BS w' a 32 c (labF key s.data.toList ctx) ∧ Below w.heap.size w w' ∧ ∀ ad, a = some ad → w.heap.size ≤ ad.block := by
  have h := refLabel_new w s hk hc h0 hs h2 32 (by omega)
  rw [labF_eq] at h
  have H := Lib.hid h
  clear h hk hc
  go_enter Tryd.func30, Tryd.ntmps30
  go_wp2_with (go_at_call 52; refine H.out.mono ?_; rintro x w1 ⟨a, c, rfl, h1, h2, h3⟩)
  go_ret
  exact ⟨_, _, rfl, h1, h2, h3⟩
theorem rsum_any (w : World) {a : Option Addr} {n c : Nat} {p : List UInt8} (hx : BS w a n c p) (hn : n ≤ 1099511627776) :
    Calls Tryd.prog 28 #[.slice a n c] w fun e w' => ∃ a' c', e = .returned (.slice a' 32 c') ∧ OW w' w.heap.size 5 1 a' 32 c' ((sumF p).map B) ∧ Below w.heap.size w w' := by
  have h := refSum_any w p hx hn
  rw [sumF_eq] at h
  exact h
theorem rmacF_any (w : World) {a b : Option Addr} {n c m k : Nat} {key p : List UInt8} (hk : BS w a n c key) (hp : BS w b m k p) (hn : n ≤ 1099511627776) (hm : m ≤ 1099511627776 - 200) :
    Calls Tryd.prog 29 #[.slice a n c, .slice b m k] w fun e w' => ∃ a' c', e = .returned (.slice a' 32 c') ∧ OW w' w.heap.size 5 1 a' 32 c' ((macF key p).map B) ∧ Below w.heap.size w w' := by
  have h := refMac_any w hk hp hn hm
  rw [macF_eq] at h
  exact h
/-- under a key's finished key -/
theorem rfm_any (w : World) {a b : Option Addr} {n c m k : Nat} {key p : List UInt8} (hk : BS w a n c key) (hp : BS w b m k p) (hn : n ≤ 549755813888) (hm : m ≤ 549755813888) :
    Calls Tryd.prog 33 #[.slice a n c, .slice b m k] w fun e w' => ∃ a' c', e = .returned (.slice a' 32 c') ∧ OW w' w.heap.size 5 1 a' 32 c' ((fmF key p).map B) ∧ Below w.heap.size w w' := by
  have h1 := rkey_any (a2 := none) (n2 := 0) (c2 := 0) (ctx := []) w { data := #[102, 105, 110, 105, 115, 104, 101, 100] } hk (RS_nil w 1) hn (by decide) (by omega)
  obtain ⟨F, hF⟩ : ∃ F, labF key [102, 105, 110, 105, 115, 104, 101, 100] [] = F := ⟨_, rfl⟩
  have hF' : labF key (ByteArray.mk #[102, 105, 110, 105, 115, 104, 101, 100]).data.toList [] = F := hF
  have hfm : fmF key p = macF F (sumF p) := by unfold fmF; rw [hF]
  rw [hF'] at h1
  have H1 := Lib.hid h1
  have HP := Lib.hid hp
  rw [hfm]
  obtain ⟨SP, hSP⟩ : ∃ SP, sumF p = SP := ⟨_, rfl⟩
  obtain ⟨M, hM⟩ : ∃ M, macF F SP = M := ⟨_, rfl⟩
  have HSP := Lib.hid hSP
  have HM := Lib.hid hM
  rw [hSP, hM]
  clear h1 hF hF' hfm hk hp hSP hM
  go_enter Tryd.func33, Tryd.ntmps33
  go_wp2_with (first
    | (go_at_call 30; refine H1.out.mono ?_; rintro x w1 ⟨a1, c1, rfl, k1, B1, n1⟩; have hp1 := RS.below HP.out B1 (Nat.le_refl _); have hs := rsum_any w1 hp1 (by omega); rw [HSP.out] at hs)
    | (go_at_call 28; refine hs.mono ?_; rintro x w2 ⟨a2, c2, rfl, o2, B2⟩; have hk2 := RS.below k1 B2 (Nat.le_refl _); have hmm := rmacF_any w2 hk2 o2.rs (by omega) (by omega); rw [HM.out] at hmm)
    | (go_at_call 29; refine hmm.mono ?_; rintro x w3 ⟨a3, c3, rfl, o3, B3⟩))
  go_ret
  exact ⟨_, _, rfl, o3.mono (Nat.le_trans B1.size B2.size), btr B1 (btr B2 B3)⟩
end Go.Proofs.YtkhcpnmbhbhcgaaDoor
