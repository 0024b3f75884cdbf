/- frame: join, stream, Bytes for the kinds that pipe hears. -/
import Derived.Test.YteekafpkbdbadaaOP
set_option maxRecDepth 100000
set_option linter.unusedVariables false
namespace Go.Proofs.Yteekafpkbdbadaa.Pi
open Go.RowKit
theorem t64 : STy Try.prog 41 25 (.int .u64 0) 1 8 := ⟨Try.underlying41, by kernel_rfl, rfl, by decide⟩
/-- bytes of the call's own, not many -/
structure OB (w0 w : World) (v : Value) (m : Nat) : Prop where
  ex : ∃ (a : Option Addr) (n c : Nat) (vs : List Value), v = .slice a n c ∧ OW w w0.heap.size 5 1 a n c vs ∧ n ≤ m ∧ Below w0.heap.size w0 w
theorem vszX_le (n : Nat) : vszX n ≤ 8 := by unfold vszX; split <;> (try split) <;> (try split) <;> omega
theorem join_1 (w : World) {a : Option Addr} {c x : Nat} (h : RS w 1 a 1 c [.int .u64 (x : Int)]) (hx : x < 4611686018427387904) : Calls Try.prog 55 #[.slice a 1 c] w fun e w' => ∃ v, e = .returned v ∧ OB w w' v 8 := by
  have T := Lib.hid (fun W => vnumX_any W x hx)
  have hv := vszX_le x
  obtain ⟨m, hm⟩ : ∃ m, vszX x = m := ⟨_, rfl⟩
  rw [hm] at hv T
  obtain ⟨xs, hxs⟩ : ∃ l, (numX x).map B = l := ⟨_, rfl⟩
  rw [hxs] at T
  clear hm hxs hx
  go_enter Try.func55, Try.ntmps55
  go_wp2_with fail
  refine wp_loop_rounds 2 ?_
  rw [rounds_succ]
  go_wp2_with (first
    | (refine L_index t64 h _ _ rfl rfl _ _ rfl rfl (by omega) (by omega) _ rfl ?_; intro q hq)
    | (go_at_call 74; refine (T.out w).mono ?_; rintro e w1 ⟨a1, c1, rfl, o1, B1⟩)
    | (at_builtin; refine L_append tB (OW_nil w1 w.heap.size 5 1) o1.rs _ _ rfl rfl rfl rfl (by omega) (by unfold maxLen; omega) B1.size ?_; intro a2 c2 w2 o2 g2))
  rw [rounds_succ]
  go_wp2_with fail
  rw [Nat.zero_add] at o2
  go_ret
  exact ⟨_, rfl, ⟨a2, _, c2, _, rfl, o2, by omega, below_none B1 g2 (Nat.le_trans B1.size (Nat.le_refl _))⟩⟩
set_option maxHeartbeats 1000000 in
theorem stream_0_false (w : World) {id : Nat} {da : SA} {t : List UInt8} (hd : BS w da.a da.n da.c t) (hid : id < 4611686018427387904) (hn : da.n ≤ 1200) : Calls Try.prog 60 #[.agg (frc 8 id 0 0 0 false da SA0 SA0).toArray] w fun e w' => ∃ v, e = .returned v ∧ OB w w' v 1300 := by
  obtain ⟨g, hg⟩ : ∃ k, w.heap.size = k := ⟨_, rfl⟩
  have hA := heap_alloc2a w (.cells (frc 8 id 0 0 0 false da SA0 SA0).toArray 37) (.cells #[.int .u64 (id : Int)] 25)
  have hb : Below w.heap.size w ((w.alloc (.cells (frc 8 id 0 0 0 false da SA0 SA0).toArray 37)).alloc (.cells #[.int .u64 (id : Int)] 25)) := (below_alloc w _).alloc (by simp) _
  have hr := RS_new (w.alloc (.cells (frc 8 id 0 0 0 false da SA0 SA0).toArray 37)) 25 #[.int .u64 (id : Int)] 1 rfl (by omega) (by simp [Value.oneCell'])
  rw [show (w.alloc (.cells (frc 8 id 0 0 0 false da SA0 SA0).toArray 37)).heap.size = w.heap.size + 1 by simp] at hr
  have HT := Lib.hid (fun (x : World) (bx : Below w.heap.size w x) => vtext_any x (RS.below hd bx (Nat.le_refl _)) (by omega))
  have HV := Lib.hid (vsz_bd da.n)
  obtain ⟨ts, hts⟩ : ∃ l, (textS t).map B = l := ⟨_, rfl⟩
  rw [hts] at HT
  unfold frc SA0 at hA hb hr
  unfold frc SA0
  obtain ⟨W2, hW2⟩ : ∃ x, (w.alloc (.cells ([.int .u64 8, .int .u64 (id : Int), .int .u64 0, .int .u64 0, .int .u64 0, .bool false, .slice da.a da.n da.c, .slice none 0 0, .slice none 0 0] : List Value).toArray 37)).alloc (.cells #[.int .u64 (id : Int)] 25) = x := ⟨_, rfl⟩
  rw [hW2, hg] at hA hr
  rw [hW2] at hb
  have HA := Lib.hid (show CR W2 g 37 _ from hA)
  have HB := Lib.hid hb
  have HR := Lib.hid hr
  have Hg := Lib.hid (show w.heap.size = g from hg)
  have HLE := Lib.hid (show w.heap.size ≤ W2.heap.size from hb.size)
  have HJ := Lib.hid (fun (x : World) (r : RS x 1 (some ⟨g + 1, 0, none⟩) 1 1 [.int .u64 (id : Int)]) => join_1 x r hid)
  have ho : bits .or .u8 10 1 = 11 := by kernel_rfl
  clear hA hb hr hts hd hid
  have c2 : W2.cell? ⟨g, 2, none⟩ = some (.int .u64 0) := HA.out.at_ 2
  have c5 : W2.cell? ⟨g, 5, none⟩ = some (.bool false) := HA.out.at_ 5
  go_enter Try.func60, Try.ntmps60
  go_upto_region 8 with (fail)
  have BV := Lib.hid (show Below W2.heap.size W2 W2.drew from bel_drew _ _)
  have HSZ := Lib.hid (Nat.le_refl W2.heap.size)
  have c6 : W2.cell? ⟨g, 6, none⟩ = some (.slice da.a da.n da.c) := HA.out.at_ 6
  clear hW2 hg ho c2 c5
  refine wp_region_held_drew (S := fun x => x.cell? ⟨g, 6, none⟩ = some (.slice da.a da.n da.c)) (by kernel_rfl) c6 (fun hHeld => ?_)
  obtain ⟨V, hV⟩ : ∃ V, W2.drew = V := ⟨_, rfl⟩
  rw [hV] at BV hHeld ⊢
  clear hV c6
  refine wpAnyH_take (i := 0) (v := .int .u8 10) rfl (by kernel_rfl) (by kernel_rfl) (by kernel_rfl) (fun _ _ _ h => h) (Or.inl ⟨by rfl, fun w h => by go_simp⟩) hHeld ?_
  try simp only [Act.put, List.getElem_toArray, List.getElem_cons_zero, List.setIfInBounds_toArray, List.set_cons_zero, List.set_cons_succ]
  refine wpAnyH_take (i := 2) (v := .slice (some ⟨g + 1, 0, none⟩) 1 1) rfl (by kernel_rfl) (by kernel_rfl) (by kernel_rfl) (fun _ _ _ h => h) (Or.inl ⟨by rfl, fun w h => by go_simp⟩) hHeld ?_
  try simp only [Act.put, List.getElem_toArray, List.getElem_cons_succ, List.getElem_cons_zero, List.setIfInBounds_toArray, List.set_cons_zero, List.set_cons_succ]
  refine wpAnyH_take (i := 5) (v := .pointer (some ⟨g, 6, none⟩)) rfl (by kernel_rfl) (by kernel_rfl) (by kernel_rfl) (fun _ _ _ h => h) (Or.inl ⟨by rfl, fun w h => by go_simp⟩) hHeld ?_
  try simp only [Act.put, List.getElem_toArray, List.getElem_cons_succ, List.getElem_cons_zero, List.setIfInBounds_toArray, List.set_cons_zero, List.set_cons_succ]
  refine wpAnyH_take (i := 6) (v := .slice da.a da.n da.c) rfl (by kernel_rfl) (by kernel_rfl) (by kernel_rfl) (fun _ _ _ h => h) (Or.inl ⟨by rfl, fun w h => by go_simp⟩) hHeld ?_
  try simp only [Act.put, List.getElem_toArray, List.getElem_cons_succ, List.getElem_cons_zero, List.setIfInBounds_toArray, List.set_cons_zero, List.set_cons_succ]
  refine wpAnyH_ready (rs := [1, 3]) (by kernel_rfl) (by simp) (AllReadyH.cons rfl (fun K hK => ?qa) (AllReadyH.cons rfl (fun K hK => ?qb) AllReadyH.nil))
  case qa =>
    go_simp
    obtain ⟨kb, hkb⟩ : ∃ q, V.heap.size = q := ⟨_, rfl⟩
    have ok := OW_made V W2.heap.size 5 1 #[.int .u8 10] 1 BV.out.size rfl (by unfold maxLen; omega) (by simp [Value.oneCell'])
    have bA := BV.out.trans ((below_alloc V (.cells #[.int .u8 10] 5)).mono BV.out.size)
    obtain ⟨w3, hw3⟩ : ∃ q, V.alloc (.cells #[.int .u8 10] 5) = q := ⟨_, rfl⟩
    rw [hw3] at ok bA ⊢
    rw [hkb] at ok ⊢
    have HOK := Lib.hid ok
    have BA := Lib.hid bA
    clear ok bA hw3 hkb
    refine hK.out _ _ ((HA.out.bel BA.out).at_ 6) (fun hHeld => ?_)
    clear hK K
    try simp only [Act.put, List.getElem_toArray, List.getElem_cons_succ, List.getElem_cons_zero, List.setIfInBounds_toArray, List.set_cons_zero, List.set_cons_succ]
    refine wpAnyH_ready (rs := [3]) (by kernel_rfl) (by simp) (AllReadyH.cons rfl (fun K hK => ?_) AllReadyH.nil)
    go_simp
    go_at_call 55
    refine (HJ.out w3 (RS.below HR.out BA.out HSZ.out)).mono ?_
    rintro x w5 ⟨v, rfl, hob⟩
    obtain ⟨aj, nj, cj, vj, rfl, oj0, hj8, bj⟩ := hob.ex
    have oj := oj0.mono BA.out.size
    have B5 := BA.out.trans (bj.mono BA.out.size)
    have ok0 := HOK.out.below bj (Nat.le_refl _)
    refine hK.out _ _ ((HA.out.bel B5).at_ 6) (fun hHeld => ?_)
    clear hK K hob oj0 bj
    try simp only [Act.put, List.getElem_toArray, List.getElem_cons_succ, List.getElem_cons_zero, List.setIfInBounds_toArray, List.set_cons_zero, List.set_cons_succ]
    refine wpAnyH_ready (rs := [4]) (by kernel_rfl) (by simp) (AllReadyH.cons rfl (fun K hK => ?_) AllReadyH.nil)
    refine S_append tB ok0 oj.rs _ _ rfl rfl rfl rfl (by omega) (by unfold maxLen; omega) B5.size ?_
    intro a4 c4 w4 o4 g4
    have B4 := below_own B5 ok0 g4 (Nat.le_refl _) B5.size
    have HO4 := Lib.hid o4
    have HB4 := Lib.hid B4
    refine hK.out _ _ ((HA.out.bel B4).at_ 6) (fun hHeld => ?_)
    clear hK K g4 o4 B4 oj ok0
    try simp only [Act.put, List.getElem_toArray, List.getElem_cons_succ, List.getElem_cons_zero, List.setIfInBounds_toArray, List.set_cons_zero, List.set_cons_succ]
    refine wpAnyH_ready (rs := [7]) (by kernel_rfl) (by simp) (AllReadyH.cons rfl (fun K hK => ?_) AllReadyH.nil)
    go_simp
    go_at_call 58
    refine (HT.out w4 (HB.out.trans (HB4.out.mono HLE.out))).mono ?_
    rintro x w7 ⟨a7, c7, rfl, o7, B7⟩
    have HB7 := Lib.hid (HB4.out.trans (B7.mono HB4.out.size))
    have HO7 := Lib.hid (HO4.out.below B7 (Nat.le_refl _))
    have HT7 := Lib.hid o7.rs
    refine hK.out _ _ ((HA.out.bel HB7.out).at_ 6) (fun hHeld => ?_)
    clear hK K o7 B7
    try simp only [Act.put, List.getElem_toArray, List.getElem_cons_succ, List.getElem_cons_zero, List.setIfInBounds_toArray, List.set_cons_zero, List.set_cons_succ]
    refine wpAnyH_ready (rs := [8]) (by kernel_rfl) (by simp) (AllReadyH.cons rfl (fun K hK => ?_) AllReadyH.nil)
    have hvs := HV.out
    refine S_append tB HO7.out HT7.out _ _ rfl rfl rfl rfl (by omega) (by unfold maxLen; omega) HB7.out.size ?_
    intro a8 c8 w8 o8 g8
    have B8 := below_own HB7.out HO7.out g8 (Nat.le_refl _) HB7.out.size
    have HO8 := Lib.hid o8
    have HB8 := Lib.hid B8
    refine hK.out _ _ ((HA.out.bel B8).at_ 6) (fun hHeld => ?_)
    clear hK K g8 o8 B8
    try simp only [Act.put, List.getElem_toArray, List.getElem_cons_succ, List.getElem_cons_zero, List.setIfInBounds_toArray, List.set_cons_zero, List.set_cons_succ]
    refine wpAnyH_take (i := 9) (v := .slice a8 (1 + nj + (vsz da.n + da.n)) c8) rfl (by kernel_rfl) (by kernel_rfl) (by kernel_rfl) (fun _ _ _ h => h) (Or.inl ⟨by rfl, fun w h => by go_simp⟩) hHeld ?_
    try simp only [Act.put, List.getElem_toArray, List.getElem_cons_succ, List.getElem_cons_zero, List.setIfInBounds_toArray, List.set_cons_zero, List.set_cons_succ]
    clear hHeld
    refine wpAnyH_done (by kernel_rfl) ?_ _
    try simp only [Act.put, List.getElem_toArray, List.getElem_cons_succ, List.getElem_cons_zero]
    go_wp2_with fail
    go_ret
    exact ⟨_, rfl, ⟨a8, _, c8, _, rfl, HO8.out.mono HLE.out, by omega, HB.out.trans (HB8.out.mono HLE.out)⟩⟩
  case qb =>
    go_simp
    go_at_call 55
    refine (HJ.out V (RS.below HR.out BV.out HSZ.out)).mono ?_
    rintro x w3 ⟨v, rfl, hob⟩
    obtain ⟨aj, nj, cj, vj, rfl, oj0, hj8, bj⟩ := hob.ex
    have HO3 := Lib.hid (oj0.mono BV.out.size)
    have BA := Lib.hid (BV.out.trans (bj.mono BV.out.size))
    refine hK.out _ _ ((HA.out.bel BA.out).at_ 6) (fun hHeld => ?_)
    clear hK K hob oj0 bj
    try simp only [Act.put, List.getElem_toArray, List.getElem_cons_succ, List.getElem_cons_zero, List.setIfInBounds_toArray, List.set_cons_zero, List.set_cons_succ]
    refine wpAnyH_ready (rs := [1]) (by kernel_rfl) (by simp) (AllReadyH.cons rfl (fun K hK => ?_) AllReadyH.nil)
    go_simp
    obtain ⟨kb, hkb⟩ : ∃ q, w3.heap.size = q := ⟨_, rfl⟩
    have ok0 := OW_made w3 W2.heap.size 5 1 #[.int .u8 10] 1 BA.out.size rfl (by unfold maxLen; omega) (by simp [Value.oneCell'])
    have B5 := BA.out.trans ((below_alloc w3 (.cells #[.int .u8 10] 5)).mono BA.out.size)
    have oj := HO3.out.alloc (.cells #[.int .u8 10] 5)
    obtain ⟨w5, hw5⟩ : ∃ q, w3.alloc (.cells #[.int .u8 10] 5) = q := ⟨_, rfl⟩
    rw [hw5] at ok0 B5 oj ⊢
    rw [hkb] at ok0 ⊢
    clear hw5 hkb
    refine hK.out _ _ ((HA.out.bel B5).at_ 6) (fun hHeld => ?_)
    clear hK K
    try simp only [Act.put, List.getElem_toArray, List.getElem_cons_succ, List.getElem_cons_zero, List.setIfInBounds_toArray, List.set_cons_zero, List.set_cons_succ]
    refine wpAnyH_ready (rs := [4]) (by kernel_rfl) (by simp) (AllReadyH.cons rfl (fun K hK => ?_) AllReadyH.nil)
    refine S_append tB ok0 oj.rs _ _ rfl rfl rfl rfl (by omega) (by unfold maxLen; omega) B5.size ?_
    intro a4 c4 w4 o4 g4
    have B4 := below_own B5 ok0 g4 (Nat.le_refl _) B5.size
    have HO4 := Lib.hid o4
    have HB4 := Lib.hid B4
    refine hK.out _ _ ((HA.out.bel B4).at_ 6) (fun hHeld => ?_)
    clear hK K g4 o4 B4 oj ok0
    try simp only [Act.put, List.getElem_toArray, List.getElem_cons_succ, List.getElem_cons_zero, List.setIfInBounds_toArray, List.set_cons_zero, List.set_cons_succ]
    refine wpAnyH_ready (rs := [7]) (by kernel_rfl) (by simp) (AllReadyH.cons rfl (fun K hK => ?_) AllReadyH.nil)
    go_simp
    go_at_call 58
    refine (HT.out w4 (HB.out.trans (HB4.out.mono HLE.out))).mono ?_
    rintro x w7 ⟨a7, c7, rfl, o7, B7⟩
    have HB7 := Lib.hid (HB4.out.trans (B7.mono HB4.out.size))
    have HO7 := Lib.hid (HO4.out.below B7 (Nat.le_refl _))
    have HT7 := Lib.hid o7.rs
    refine hK.out _ _ ((HA.out.bel HB7.out).at_ 6) (fun hHeld => ?_)
    clear hK K o7 B7
    try simp only [Act.put, List.getElem_toArray, List.getElem_cons_succ, List.getElem_cons_zero, List.setIfInBounds_toArray, List.set_cons_zero, List.set_cons_succ]
    refine wpAnyH_ready (rs := [8]) (by kernel_rfl) (by simp) (AllReadyH.cons rfl (fun K hK => ?_) AllReadyH.nil)
    have hvs := HV.out
    refine S_append tB HO7.out HT7.out _ _ rfl rfl rfl rfl (by omega) (by unfold maxLen; omega) HB7.out.size ?_
    intro a8 c8 w8 o8 g8
    have B8 := below_own HB7.out HO7.out g8 (Nat.le_refl _) HB7.out.size
    have HO8 := Lib.hid o8
    have HB8 := Lib.hid B8
    refine hK.out _ _ ((HA.out.bel B8).at_ 6) (fun hHeld => ?_)
    clear hK K g8 o8 B8
    try simp only [Act.put, List.getElem_toArray, List.getElem_cons_succ, List.getElem_cons_zero, List.setIfInBounds_toArray, List.set_cons_zero, List.set_cons_succ]
    refine wpAnyH_take (i := 9) (v := .slice a8 (1 + nj + (vsz da.n + da.n)) c8) rfl (by kernel_rfl) (by kernel_rfl) (by kernel_rfl) (fun _ _ _ h => h) (Or.inl ⟨by rfl, fun w h => by go_simp⟩) hHeld ?_
    try simp only [Act.put, List.getElem_toArray, List.getElem_cons_succ, List.getElem_cons_zero, List.setIfInBounds_toArray, List.set_cons_zero, List.set_cons_succ]
    clear hHeld
    refine wpAnyH_done (by kernel_rfl) ?_ _
    try simp only [Act.put, List.getElem_toArray, List.getElem_cons_succ, List.getElem_cons_zero]
    go_wp2_with fail
    go_ret
    exact ⟨_, rfl, ⟨a8, _, c8, _, rfl, HO8.out.mono HLE.out, by omega, HB.out.trans (HB8.out.mono HLE.out)⟩⟩
set_option maxHeartbeats 1000000 in
theorem stream_0_true (w : World) {id : Nat} {da : SA} {t : List UInt8} (hd : BS w da.a da.n da.c t) (hid : id < 4611686018427387904) (hn : da.n ≤ 1200) : Calls Try.prog 60 #[.agg (frc 8 id 0 0 0 true da SA0 SA0).toArray] w fun e w' => ∃ v, e = .returned v ∧ OB w w' v 1300 := by
  obtain ⟨g, hg⟩ : ∃ k, w.heap.size = k := ⟨_, rfl⟩
  have hA := heap_alloc2a w (.cells (frc 8 id 0 0 0 true da SA0 SA0).toArray 37) (.cells #[.int .u64 (id : Int)] 25)
  have hb : Below w.heap.size w ((w.alloc (.cells (frc 8 id 0 0 0 true da SA0 SA0).toArray 37)).alloc (.cells #[.int .u64 (id : Int)] 25)) := (below_alloc w _).alloc (by simp) _
  have hr := RS_new (w.alloc (.cells (frc 8 id 0 0 0 true da SA0 SA0).toArray 37)) 25 #[.int .u64 (id : Int)] 1 rfl (by omega) (by simp [Value.oneCell'])
  rw [show (w.alloc (.cells (frc 8 id 0 0 0 true da SA0 SA0).toArray 37)).heap.size = w.heap.size + 1 by simp] at hr
  have HT := Lib.hid (fun (x : World) (bx : Below w.heap.size w x) => vtext_any x (RS.below hd bx (Nat.le_refl _)) (by omega))
  have HV := Lib.hid (vsz_bd da.n)
  obtain ⟨ts, hts⟩ : ∃ l, (textS t).map B = l := ⟨_, rfl⟩
  rw [hts] at HT
  unfold frc SA0 at hA hb hr
  unfold frc SA0
  obtain ⟨W2, hW2⟩ : ∃ x, (w.alloc (.cells ([.int .u64 8, .int .u64 (id : Int), .int .u64 0, .int .u64 0, .int .u64 0, .bool true, .slice da.a da.n da.c, .slice none 0 0, .slice none 0 0] : List Value).toArray 37)).alloc (.cells #[.int .u64 (id : Int)] 25) = x := ⟨_, rfl⟩
  rw [hW2, hg] at hA hr
  rw [hW2] at hb
  have HA := Lib.hid (show CR W2 g 37 _ from hA)
  have HB := Lib.hid hb
  have HR := Lib.hid hr
  have Hg := Lib.hid (show w.heap.size = g from hg)
  have HLE := Lib.hid (show w.heap.size ≤ W2.heap.size from hb.size)
  have HJ := Lib.hid (fun (x : World) (r : RS x 1 (some ⟨g + 1, 0, none⟩) 1 1 [.int .u64 (id : Int)]) => join_1 x r hid)
  have ho : bits .or .u8 10 1 = 11 := by kernel_rfl
  clear hA hb hr hts hd hid
  have c2 : W2.cell? ⟨g, 2, none⟩ = some (.int .u64 0) := HA.out.at_ 2
  have c5 : W2.cell? ⟨g, 5, none⟩ = some (.bool true) := HA.out.at_ 5
  go_enter Try.func60, Try.ntmps60
  go_upto_region 8 with (fail)
  have BV := Lib.hid (show Below W2.heap.size W2 W2.drew from bel_drew _ _)
  have HSZ := Lib.hid (Nat.le_refl W2.heap.size)
  have c6 : W2.cell? ⟨g, 6, none⟩ = some (.slice da.a da.n da.c) := HA.out.at_ 6
  clear hW2 hg ho c2 c5
  refine wp_region_held_drew (S := fun x => x.cell? ⟨g, 6, none⟩ = some (.slice da.a da.n da.c)) (by kernel_rfl) c6 (fun hHeld => ?_)
  obtain ⟨V, hV⟩ : ∃ V, W2.drew = V := ⟨_, rfl⟩
  rw [hV] at BV hHeld ⊢
  clear hV c6
  refine wpAnyH_take (i := 0) (v := .int .u8 11) rfl (by kernel_rfl) (by kernel_rfl) (by kernel_rfl) (fun _ _ _ h => h) (Or.inl ⟨by rfl, fun w h => by go_simp⟩) hHeld ?_
  try simp only [Act.put, List.getElem_toArray, List.getElem_cons_zero, List.setIfInBounds_toArray, List.set_cons_zero, List.set_cons_succ]
  refine wpAnyH_take (i := 2) (v := .slice (some ⟨g + 1, 0, none⟩) 1 1) rfl (by kernel_rfl) (by kernel_rfl) (by kernel_rfl) (fun _ _ _ h => h) (Or.inl ⟨by rfl, fun w h => by go_simp⟩) hHeld ?_
  try simp only [Act.put, List.getElem_toArray, List.getElem_cons_succ, List.getElem_cons_zero, List.setIfInBounds_toArray, List.set_cons_zero, List.set_cons_succ]
  refine wpAnyH_take (i := 5) (v := .pointer (some ⟨g, 6, none⟩)) rfl (by kernel_rfl) (by kernel_rfl) (by kernel_rfl) (fun _ _ _ h => h) (Or.inl ⟨by rfl, fun w h => by go_simp⟩) hHeld ?_
  try simp only [Act.put, List.getElem_toArray, List.getElem_cons_succ, List.getElem_cons_zero, List.setIfInBounds_toArray, List.set_cons_zero, List.set_cons_succ]
  refine wpAnyH_take (i := 6) (v := .slice da.a da.n da.c) rfl (by kernel_rfl) (by kernel_rfl) (by kernel_rfl) (fun _ _ _ h => h) (Or.inl ⟨by rfl, fun w h => by go_simp⟩) hHeld ?_
  try simp only [Act.put, List.getElem_toArray, List.getElem_cons_succ, List.getElem_cons_zero, List.setIfInBounds_toArray, List.set_cons_zero, List.set_cons_succ]
  refine wpAnyH_ready (rs := [1, 3]) (by kernel_rfl) (by simp) (AllReadyH.cons rfl (fun K hK => ?qa) (AllReadyH.cons rfl (fun K hK => ?qb) AllReadyH.nil))
  case qa =>
    go_simp
    obtain ⟨kb, hkb⟩ : ∃ q, V.heap.size = q := ⟨_, rfl⟩
    have ok := OW_made V W2.heap.size 5 1 #[.int .u8 11] 1 BV.out.size rfl (by unfold maxLen; omega) (by simp [Value.oneCell'])
    have bA := BV.out.trans ((below_alloc V (.cells #[.int .u8 11] 5)).mono BV.out.size)
    obtain ⟨w3, hw3⟩ : ∃ q, V.alloc (.cells #[.int .u8 11] 5) = q := ⟨_, rfl⟩
    rw [hw3] at ok bA ⊢
    rw [hkb] at ok ⊢
    have HOK := Lib.hid ok
    have BA := Lib.hid bA
    clear ok bA hw3 hkb
    refine hK.out _ _ ((HA.out.bel BA.out).at_ 6) (fun hHeld => ?_)
    clear hK K
    try simp only [Act.put, List.getElem_toArray, List.getElem_cons_succ, List.getElem_cons_zero, List.setIfInBounds_toArray, List.set_cons_zero, List.set_cons_succ]
    refine wpAnyH_ready (rs := [3]) (by kernel_rfl) (by simp) (AllReadyH.cons rfl (fun K hK => ?_) AllReadyH.nil)
    go_simp
    go_at_call 55
    refine (HJ.out w3 (RS.below HR.out BA.out HSZ.out)).mono ?_
    rintro x w5 ⟨v, rfl, hob⟩
    obtain ⟨aj, nj, cj, vj, rfl, oj0, hj8, bj⟩ := hob.ex
    have oj := oj0.mono BA.out.size
    have B5 := BA.out.trans (bj.mono BA.out.size)
    have ok0 := HOK.out.below bj (Nat.le_refl _)
    refine hK.out _ _ ((HA.out.bel B5).at_ 6) (fun hHeld => ?_)
    clear hK K hob oj0 bj
    try simp only [Act.put, List.getElem_toArray, List.getElem_cons_succ, List.getElem_cons_zero, List.setIfInBounds_toArray, List.set_cons_zero, List.set_cons_succ]
    refine wpAnyH_ready (rs := [4]) (by kernel_rfl) (by simp) (AllReadyH.cons rfl (fun K hK => ?_) AllReadyH.nil)
    refine S_append tB ok0 oj.rs _ _ rfl rfl rfl rfl (by omega) (by unfold maxLen; omega) B5.size ?_
    intro a4 c4 w4 o4 g4
    have B4 := below_own B5 ok0 g4 (Nat.le_refl _) B5.size
    have HO4 := Lib.hid o4
    have HB4 := Lib.hid B4
    refine hK.out _ _ ((HA.out.bel B4).at_ 6) (fun hHeld => ?_)
    clear hK K g4 o4 B4 oj ok0
    try simp only [Act.put, List.getElem_toArray, List.getElem_cons_succ, List.getElem_cons_zero, List.setIfInBounds_toArray, List.set_cons_zero, List.set_cons_succ]
    refine wpAnyH_ready (rs := [7]) (by kernel_rfl) (by simp) (AllReadyH.cons rfl (fun K hK => ?_) AllReadyH.nil)
    go_simp
    go_at_call 58
    refine (HT.out w4 (HB.out.trans (HB4.out.mono HLE.out))).mono ?_
    rintro x w7 ⟨a7, c7, rfl, o7, B7⟩
    have HB7 := Lib.hid (HB4.out.trans (B7.mono HB4.out.size))
    have HO7 := Lib.hid (HO4.out.below B7 (Nat.le_refl _))
    have HT7 := Lib.hid o7.rs
    refine hK.out _ _ ((HA.out.bel HB7.out).at_ 6) (fun hHeld => ?_)
    clear hK K o7 B7
    try simp only [Act.put, List.getElem_toArray, List.getElem_cons_succ, List.getElem_cons_zero, List.setIfInBounds_toArray, List.set_cons_zero, List.set_cons_succ]
    refine wpAnyH_ready (rs := [8]) (by kernel_rfl) (by simp) (AllReadyH.cons rfl (fun K hK => ?_) AllReadyH.nil)
    have hvs := HV.out
    refine S_append tB HO7.out HT7.out _ _ rfl rfl rfl rfl (by omega) (by unfold maxLen; omega) HB7.out.size ?_
    intro a8 c8 w8 o8 g8
    have B8 := below_own HB7.out HO7.out g8 (Nat.le_refl _) HB7.out.size
    have HO8 := Lib.hid o8
    have HB8 := Lib.hid B8
    refine hK.out _ _ ((HA.out.bel B8).at_ 6) (fun hHeld => ?_)
    clear hK K g8 o8 B8
    try simp only [Act.put, List.getElem_toArray, List.getElem_cons_succ, List.getElem_cons_zero, List.setIfInBounds_toArray, List.set_cons_zero, List.set_cons_succ]
    refine wpAnyH_take (i := 9) (v := .slice a8 (1 + nj + (vsz da.n + da.n)) c8) rfl (by kernel_rfl) (by kernel_rfl) (by kernel_rfl) (fun _ _ _ h => h) (Or.inl ⟨by rfl, fun w h => by go_simp⟩) hHeld ?_
    try simp only [Act.put, List.getElem_toArray, List.getElem_cons_succ, List.getElem_cons_zero, List.setIfInBounds_toArray, List.set_cons_zero, List.set_cons_succ]
    clear hHeld
    refine wpAnyH_done (by kernel_rfl) ?_ _
    try simp only [Act.put, List.getElem_toArray, List.getElem_cons_succ, List.getElem_cons_zero]
    go_wp2_with fail
    go_ret
    exact ⟨_, rfl, ⟨a8, _, c8, _, rfl, HO8.out.mono HLE.out, by omega, HB.out.trans (HB8.out.mono HLE.out)⟩⟩
  case qb =>
    go_simp
    go_at_call 55
    refine (HJ.out V (RS.below HR.out BV.out HSZ.out)).mono ?_
    rintro x w3 ⟨v, rfl, hob⟩
    obtain ⟨aj, nj, cj, vj, rfl, oj0, hj8, bj⟩ := hob.ex
    have HO3 := Lib.hid (oj0.mono BV.out.size)
    have BA := Lib.hid (BV.out.trans (bj.mono BV.out.size))
    refine hK.out _ _ ((HA.out.bel BA.out).at_ 6) (fun hHeld => ?_)
    clear hK K hob oj0 bj
    try simp only [Act.put, List.getElem_toArray, List.getElem_cons_succ, List.getElem_cons_zero, List.setIfInBounds_toArray, List.set_cons_zero, List.set_cons_succ]
    refine wpAnyH_ready (rs := [1]) (by kernel_rfl) (by simp) (AllReadyH.cons rfl (fun K hK => ?_) AllReadyH.nil)
    go_simp
    obtain ⟨kb, hkb⟩ : ∃ q, w3.heap.size = q := ⟨_, rfl⟩
    have ok0 := OW_made w3 W2.heap.size 5 1 #[.int .u8 11] 1 BA.out.size rfl (by unfold maxLen; omega) (by simp [Value.oneCell'])
    have B5 := BA.out.trans ((below_alloc w3 (.cells #[.int .u8 11] 5)).mono BA.out.size)
    have oj := HO3.out.alloc (.cells #[.int .u8 11] 5)
    obtain ⟨w5, hw5⟩ : ∃ q, w3.alloc (.cells #[.int .u8 11] 5) = q := ⟨_, rfl⟩
    rw [hw5] at ok0 B5 oj ⊢
    rw [hkb] at ok0 ⊢
    clear hw5 hkb
    refine hK.out _ _ ((HA.out.bel B5).at_ 6) (fun hHeld => ?_)
    clear hK K
    try simp only [Act.put, List.getElem_toArray, List.getElem_cons_succ, List.getElem_cons_zero, List.setIfInBounds_toArray, List.set_cons_zero, List.set_cons_succ]
    refine wpAnyH_ready (rs := [4]) (by kernel_rfl) (by simp) (AllReadyH.cons rfl (fun K hK => ?_) AllReadyH.nil)
    refine S_append tB ok0 oj.rs _ _ rfl rfl rfl rfl (by omega) (by unfold maxLen; omega) B5.size ?_
    intro a4 c4 w4 o4 g4
    have B4 := below_own B5 ok0 g4 (Nat.le_refl _) B5.size
    have HO4 := Lib.hid o4
    have HB4 := Lib.hid B4
    refine hK.out _ _ ((HA.out.bel B4).at_ 6) (fun hHeld => ?_)
    clear hK K g4 o4 B4 oj ok0
    try simp only [Act.put, List.getElem_toArray, List.getElem_cons_succ, List.getElem_cons_zero, List.setIfInBounds_toArray, List.set_cons_zero, List.set_cons_succ]
    refine wpAnyH_ready (rs := [7]) (by kernel_rfl) (by simp) (AllReadyH.cons rfl (fun K hK => ?_) AllReadyH.nil)
    go_simp
    go_at_call 58
    refine (HT.out w4 (HB.out.trans (HB4.out.mono HLE.out))).mono ?_
    rintro x w7 ⟨a7, c7, rfl, o7, B7⟩
    have HB7 := Lib.hid (HB4.out.trans (B7.mono HB4.out.size))
    have HO7 := Lib.hid (HO4.out.below B7 (Nat.le_refl _))
    have HT7 := Lib.hid o7.rs
    refine hK.out _ _ ((HA.out.bel HB7.out).at_ 6) (fun hHeld => ?_)
    clear hK K o7 B7
    try simp only [Act.put, List.getElem_toArray, List.getElem_cons_succ, List.getElem_cons_zero, List.setIfInBounds_toArray, List.set_cons_zero, List.set_cons_succ]
    refine wpAnyH_ready (rs := [8]) (by kernel_rfl) (by simp) (AllReadyH.cons rfl (fun K hK => ?_) AllReadyH.nil)
    have hvs := HV.out
    refine S_append tB HO7.out HT7.out _ _ rfl rfl rfl rfl (by omega) (by unfold maxLen; omega) HB7.out.size ?_
    intro a8 c8 w8 o8 g8
    have B8 := below_own HB7.out HO7.out g8 (Nat.le_refl _) HB7.out.size
    have HO8 := Lib.hid o8
    have HB8 := Lib.hid B8
    refine hK.out _ _ ((HA.out.bel B8).at_ 6) (fun hHeld => ?_)
    clear hK K g8 o8 B8
    try simp only [Act.put, List.getElem_toArray, List.getElem_cons_succ, List.getElem_cons_zero, List.setIfInBounds_toArray, List.set_cons_zero, List.set_cons_succ]
    refine wpAnyH_take (i := 9) (v := .slice a8 (1 + nj + (vsz da.n + da.n)) c8) rfl (by kernel_rfl) (by kernel_rfl) (by kernel_rfl) (fun _ _ _ h => h) (Or.inl ⟨by rfl, fun w h => by go_simp⟩) hHeld ?_
    try simp only [Act.put, List.getElem_toArray, List.getElem_cons_succ, List.getElem_cons_zero, List.setIfInBounds_toArray, List.set_cons_zero, List.set_cons_succ]
    clear hHeld
    refine wpAnyH_done (by kernel_rfl) ?_ _
    try simp only [Act.put, List.getElem_toArray, List.getElem_cons_succ, List.getElem_cons_zero]
    go_wp2_with fail
    go_ret
    exact ⟨_, rfl, ⟨a8, _, c8, _, rfl, HO8.out.mono HLE.out, by omega, HB.out.trans (HB8.out.mono HLE.out)⟩⟩
end Go.Proofs.Yteekafpkbdbadaa.Pi
