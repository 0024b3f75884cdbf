/- pipe: Hear of StreamsBidi and StreamsUni. -/
import Derived.Test.YteekafpkbdbadaaOM
import Derived.Test.YteekafpkbdbadaaOT
set_option maxRecDepth 100000
set_option linter.unusedVariables false
namespace Go.Proofs.Yteekafpkbdbadaa.Pi
open Go.RowKit
section
variable {w w' : World} {role : Nat → Nat} {g : Nat} {T : TaS} {Y : TaY}
set_option maxHeartbeats 4000000 in
theorem hear_18 (h : TZ w role g T Y) (n : Nat) (hn : n ≤ 1152921504606846976) :
    Calls Try.prog 11 #[ptr g, .agg (frc 18 0 0 n 0 false SA0 SA0 SA0).toArray] w fun e w' => e = .returned (.int .u64 0) ∧ TZ w' role g (Pi.setSo T T.srv false { T.so T.srv false with may := max (T.so T.srv false).may (min n 1152921504606846976) }) Y ∧ Stq (fun r => r ≠ 0) w w' role role := by
  obtain ⟨gf, hg⟩ : ∃ k, w.heap.size = k := ⟨_, rfl⟩
  have hA := CR.new w 37 (frc 18 0 0 n 0 false SA0 SA0 SA0)
  have hb := below_alloc w (.cells (frc 18 0 0 n 0 false SA0 SA0 SA0).toArray 37)
  have HO := Lib.hid (fun (x : World) => odd_18 x n hn)
  unfold frc SA0 at hA hb HO
  unfold frc SA0
  obtain ⟨W1, hW1⟩ : ∃ x, w.alloc (.cells ([.int .u64 18, .int .u64 0, .int .u64 0, .int .u64 (n : Int), .int .u64 0, .bool false, .slice none 0 0, .slice none 0 0, .slice none 0 0] : List Value).toArray 37) = x := ⟨_, rfl⟩
  rw [hW1, hg] at hA
  rw [hW1] at hb
  have HA := Lib.hid hA
  have HB := Lib.hid hb
  have HH := Lib.hid h
  obtain ⟨sv, hsv⟩ : ∃ b, T.srv = b := ⟨_, rfl⟩
  obtain ⟨may, hmay⟩ : ∃ n, (T.so T.srv false).may = n := ⟨_, rfl⟩
  obtain ⟨so, hso⟩ : ∃ b, Y.so T.srv false = b := ⟨_, rfl⟩
  rw [hsv] at hmay hso ⊢
  rw [hmay]
  obtain ⟨X, hX⟩ : ∃ q, min n 1152921504606846976 = q := ⟨_, rfl⟩
  obtain ⟨Z, hZ⟩ : ∃ q, max may X = q := ⟨_, rfl⟩
  rw [hX, hZ]
  have HMN := Lib.hid (fun (ts : Array TypeId) (t : TypeId) (W : World) => (by rw [← hX]; exact min2 W ts t n 1152921504606846976 : (Builtin.min_ ts t #[.int .u64 (n : Int), .int .u64 1152921504606846976]).run Try.prog W = .ok (.int .u64 (X : Int)) W))
  have HMX := Lib.hid (fun (ts : Array TypeId) (t : TypeId) (W : World) => (by rw [← hZ]; exact max2 W ts t may X : (Builtin.max_ ts t #[.int .u64 (may : Int), .int .u64 (X : Int)]).run Try.prog W = .ok (.int .u64 (Z : Int)) W))
  have HF := Lib.hid (fun (u : World) (z : TZ u role g T Y) => (⟨z.row.cr.at_ 10, by have hq := z.row.cr.at_ 0; rw [← hsv]; exact hq, by have hq := z.sm.1.choose_spec.look sv false; rw [hso] at hq; exact hq, by have hq := (z.so sv false).cr.at_ 1; rw [hso, hmay] at hq; exact hq, by have hq := (z.so sv false).cr.fr 1; rw [hso] at hq; exact hq⟩ : u.cell? ⟨g, 10, none⟩ = some (.map (some Y.ms)) ∧ u.cell? ⟨g, 0, none⟩ = some (.bool sv) ∧ (Instr.lookup 57 (.map (some Y.ms)) (.agg #[.bool sv, .bool false]) false).run Try.prog u = .ok (.pointer (some ⟨so, 0, none⟩)) u ∧ u.cell? ⟨so, 1, none⟩ = some (.int .u64 (may : Int)) ∧ u.frozen? ⟨so, 1, none⟩ = false))
  have HSO := Lib.hid (fun (u : World) (z : TZ u role g T Y) => (by have hq := z.setSoC sv false 1 (u64 Z) (s := { T.so sv false with may := Z }) rfl; rw [hso] at hq; exact hq : TZ (u.setCell ⟨so, 1, none⟩ (u64 Z)) role g (Pi.setSo T sv false { T.so sv false with may := Z }) Y ∧ Stq (fun r => r ≠ 0) u (u.setCell ⟨so, 1, none⟩ (u64 Z)) role role))
  have HNE := Lib.hid (show so ≠ gf from fun he => by have hq := (h.so sv false).cr.lt; rw [hso] at hq; omega)
  have H1 := Lib.hid (h.bel hb)
  unfold u64 at HSO
  unfold ptr
  clear hA hb h hsv hmay hso hX hZ hn
  go_enter Try.func11, Try.ntmps11
  go_upto_region 19 with (first
    | (refine L_loadG 37 _ rfl (by rfl) _ _ rfl _ _ HA.out.rng Try.underlying37 rfl iFr ?_)
    | (go_at_call 23; refine (HO.out W1).mono ?_; rintro x w2 ⟨rfl, B2⟩
       have HA2 := Lib.hid (HA.out.bel B2)
       have HB2 := Lib.hid (HB.out.trans (B2.mono HB.out.size))
       have HZ2 := Lib.hid (H1.out.bel B2)
       have c0 : w2.cell? ⟨gf, 0, none⟩ = some (.int .u64 18) := HA2.out.at_ 0
       clear B2))
  have g10 := (HF.out _ HZ2.out).1
  have g0 := (HF.out _ HZ2.out).2.1
  have l0 : ∀ m, (Instr.lookup 57 (.map (some Y.ms)) (.agg #[.bool sv, .bool false]) false).run Try.prog (w2.drewN m) = .ok (.pointer (some ⟨so, 0, none⟩)) (w2.drewN m) := fun m => (HF.out _ (HZ2.out.bel (bel_drewN _ w2 m))).2.2.1
  clear hW1 hg
  go_quiet (fail)
  clear g10 g0 l0 c0
  have bV := bel_drewN w2.heap.size w2 nq
  obtain ⟨U, hU⟩ : ∃ q, w2.drewN nq = q := ⟨_, rfl⟩
  rw [hU] at bV ⊢
  have HZU := Lib.hid (HZ2.out.bel bV)
  have HAU := Lib.hid (HA2.out.bel bV)
  have HBU := Lib.hid (HB2.out.trans (bV.mono HB2.out.size))
  clear bV hU
  go_wp2_with fail
  have bV : Below U.heap.size U U.drew := bel_drew _ _
  obtain ⟨V, hV⟩ : ∃ V, U.drew = V := ⟨_, rfl⟩
  rw [hV] at bV
  have HZV := Lib.hid (HZU.out.bel bV)
  have HAV := Lib.hid (HAU.out.bel bV)
  have HBV := Lib.hid (HBU.out.trans (bV.mono HBU.out.size))
  have c3 : V.cell? ⟨gf, 3, none⟩ = some (.int .u64 (n : Int)) := HAV.out.at_ 3
  have s1 := (HF.out _ HZV.out).2.2.2.1
  have f1 := (HF.out _ HZV.out).2.2.2.2
  clear bV
  refine wp_region_held_drew (S := fun u => u.cell? ⟨gf, 3, none⟩ = some (.int .u64 (n : Int))) (by kernel_rfl) (by rw [hV]; exact c3) (fun hHeld => ?_)
  rw [hV] at hHeld ⊢
  clear hV c3
  have hmn := HMN.out
  have hmd := HMX.out
  refine wpAnyH_take (i := 0) (v := .pointer (some ⟨so, 0, none⟩)) rfl (by kernel_rfl) (by kernel_rfl) (by kernel_rfl) (fun _ _ _ h => h) (Or.inl ⟨by rfl, fun w h => by go_simp⟩) hHeld ?_
  try simp only [Act.put, List.getElem_toArray, List.getElem_cons_zero, List.setIfInBounds_toArray, List.set_cons_zero, List.set_cons_succ]
  refine wpAnyH_take (i := 1) (v := .pointer (some ⟨so, 0, none⟩)) rfl (by kernel_rfl) (by kernel_rfl) (by kernel_rfl) (fun _ _ _ h => h) (Or.inl ⟨by rfl, fun w h => by go_simp⟩) hHeld ?_
  try simp only [Act.put, List.getElem_toArray, List.getElem_cons_succ, List.getElem_cons_zero, List.setIfInBounds_toArray, List.set_cons_zero, List.set_cons_succ]
  refine wpAnyH_take (i := 2) (v := .pointer (some ⟨so, 0, none⟩)) rfl (by kernel_rfl) (by kernel_rfl) (by kernel_rfl) (fun _ _ _ h => h) (Or.inl ⟨by rfl, fun w h => by go_simp⟩) hHeld ?_
  try simp only [Act.put, List.getElem_toArray, List.getElem_cons_succ, List.getElem_cons_zero, List.setIfInBounds_toArray, List.set_cons_zero, List.set_cons_succ]
  refine wpAnyH_take (i := 3) (v := .pointer (some ⟨so, 1, none⟩)) rfl (by kernel_rfl) (by kernel_rfl) (by kernel_rfl) (fun _ _ _ h => h) (Or.inl ⟨by rfl, fun w h => by go_simp⟩) hHeld ?_
  try simp only [Act.put, List.getElem_toArray, List.getElem_cons_succ, List.getElem_cons_zero, List.setIfInBounds_toArray, List.set_cons_zero, List.set_cons_succ]
  refine wpAnyH_take (i := 5) (v := .pointer (some ⟨gf, 3, none⟩)) rfl (by kernel_rfl) (by kernel_rfl) (by kernel_rfl) (fun _ _ _ h => h) (Or.inl ⟨by rfl, fun w h => by go_simp⟩) hHeld ?_
  try simp only [Act.put, List.getElem_toArray, List.getElem_cons_succ, List.getElem_cons_zero, List.setIfInBounds_toArray, List.set_cons_zero, List.set_cons_succ]
  refine wpAnyH_take (i := 6) (v := .int .u64 (n : Int)) rfl (by kernel_rfl) (by kernel_rfl) (by kernel_rfl) (fun _ _ _ h => h) (Or.inl ⟨by rfl, fun w h => by go_simp⟩) hHeld ?_
  try simp only [Act.put, List.getElem_toArray, List.getElem_cons_succ, List.getElem_cons_zero, List.setIfInBounds_toArray, List.set_cons_zero, List.set_cons_succ]
  refine wpAnyH_take (i := 7) (v := .int .u64 (X : Int)) rfl (by kernel_rfl) (by kernel_rfl) (by kernel_rfl) (fun _ _ _ h => h) (Or.inl ⟨by rfl, fun w h => by go_simp⟩) hHeld ?_
  try simp only [Act.put, List.getElem_toArray, List.getElem_cons_succ, List.getElem_cons_zero, List.setIfInBounds_toArray, List.set_cons_zero, List.set_cons_succ]
  refine wpAnyH_ready (rs := [4]) (by kernel_rfl) (by simp) (AllReadyH.cons rfl (fun K hK => ?_) AllReadyH.nil)
  go_simp
  refine hK.out _ _ hHeld (fun hHeld => ?_)
  clear hK K
  try simp only [Act.put, List.getElem_toArray, List.getElem_cons_succ, List.getElem_cons_zero, List.setIfInBounds_toArray, List.set_cons_zero, List.set_cons_succ]
  refine wpAnyH_take (i := 8) (v := .int .u64 (Z : Int)) rfl (by kernel_rfl) (by kernel_rfl) (by kernel_rfl) (fun _ _ _ h => h) (Or.inl ⟨by rfl, fun w h => by go_simp⟩) hHeld ?_
  try simp only [Act.put, List.getElem_toArray, List.getElem_cons_succ, List.getElem_cons_zero, List.setIfInBounds_toArray, List.set_cons_zero, List.set_cons_succ]
  refine wpAnyH_take (i := 9) (v := .pointer (some ⟨so, 0, none⟩)) rfl (by kernel_rfl) (by kernel_rfl) (by kernel_rfl) (fun _ _ _ h => h) (Or.inl ⟨by rfl, fun w h => by go_simp⟩) hHeld ?_
  try simp only [Act.put, List.getElem_toArray, List.getElem_cons_succ, List.getElem_cons_zero, List.setIfInBounds_toArray, List.set_cons_zero, List.set_cons_succ]
  refine wpAnyH_take (i := 10) (v := .pointer (some ⟨so, 1, none⟩)) rfl (by kernel_rfl) (by kernel_rfl) (by kernel_rfl) (fun _ _ _ h => h) (Or.inl ⟨by rfl, fun w h => by go_simp⟩) hHeld ?_
  try simp only [Act.put, List.getElem_toArray, List.getElem_cons_succ, List.getElem_cons_zero, List.setIfInBounds_toArray, List.set_cons_zero, List.set_cons_succ]
  refine wpAnyH_ready (rs := [11]) (by kernel_rfl) (by simp) (AllReadyH.cons rfl (fun K hK => ?_) AllReadyH.nil)
  go_simp
  refine hK.out _ _ ((HAV.out.grown (grown_set V so 1 _) (fun he => by injection he with he; exact HNE.out he.symm)).at_ 3) (fun hHeld => ?_)
  clear hK K s1 f1 hHeld hmn hmd
  try simp only [Act.put, List.getElem_toArray, List.getElem_cons_succ, List.getElem_cons_zero, List.setIfInBounds_toArray, List.set_cons_zero, List.set_cons_succ]
  refine wpAnyH_done (by kernel_rfl) ?_ _
  try simp only [Act.put, List.getElem_toArray, List.getElem_cons_succ, List.getElem_cons_zero]
  go_wp2_with fail
  go_ret
  exact ⟨rfl, (HSO.out V HZV.out).1, (Stq.bel HBV.out HH.out.top).trans (HSO.out V HZV.out).2⟩
set_option maxHeartbeats 4000000 in
theorem hear_19 (h : TZ w role g T Y) (n : Nat) (hn : n ≤ 1152921504606846976) :
    Calls Try.prog 11 #[ptr g, .agg (frc 19 0 0 n 0 false SA0 SA0 SA0).toArray] w fun e w' => e = .returned (.int .u64 0) ∧ TZ w' role g (Pi.setSo T T.srv true { T.so T.srv true with may := max (T.so T.srv true).may (min n 1152921504606846976) }) Y ∧ Stq (fun r => r ≠ 0) w w' role role := by
  obtain ⟨gf, hg⟩ : ∃ k, w.heap.size = k := ⟨_, rfl⟩
  have hA := CR.new w 37 (frc 19 0 0 n 0 false SA0 SA0 SA0)
  have hb := below_alloc w (.cells (frc 19 0 0 n 0 false SA0 SA0 SA0).toArray 37)
  have HO := Lib.hid (fun (x : World) => odd_19 x n hn)
  unfold frc SA0 at hA hb HO
  unfold frc SA0
  obtain ⟨W1, hW1⟩ : ∃ x, w.alloc (.cells ([.int .u64 19, .int .u64 0, .int .u64 0, .int .u64 (n : Int), .int .u64 0, .bool false, .slice none 0 0, .slice none 0 0, .slice none 0 0] : List Value).toArray 37) = x := ⟨_, rfl⟩
  rw [hW1, hg] at hA
  rw [hW1] at hb
  have HA := Lib.hid hA
  have HB := Lib.hid hb
  have HH := Lib.hid h
  obtain ⟨sv, hsv⟩ : ∃ b, T.srv = b := ⟨_, rfl⟩
  obtain ⟨may, hmay⟩ : ∃ n, (T.so T.srv true).may = n := ⟨_, rfl⟩
  obtain ⟨so, hso⟩ : ∃ b, Y.so T.srv true = b := ⟨_, rfl⟩
  rw [hsv] at hmay hso ⊢
  rw [hmay]
  obtain ⟨X, hX⟩ : ∃ q, min n 1152921504606846976 = q := ⟨_, rfl⟩
  obtain ⟨Z, hZ⟩ : ∃ q, max may X = q := ⟨_, rfl⟩
  rw [hX, hZ]
  have HMN := Lib.hid (fun (ts : Array TypeId) (t : TypeId) (W : World) => (by rw [← hX]; exact min2 W ts t n 1152921504606846976 : (Builtin.min_ ts t #[.int .u64 (n : Int), .int .u64 1152921504606846976]).run Try.prog W = .ok (.int .u64 (X : Int)) W))
  have HMX := Lib.hid (fun (ts : Array TypeId) (t : TypeId) (W : World) => (by rw [← hZ]; exact max2 W ts t may X : (Builtin.max_ ts t #[.int .u64 (may : Int), .int .u64 (X : Int)]).run Try.prog W = .ok (.int .u64 (Z : Int)) W))
  have HF := Lib.hid (fun (u : World) (z : TZ u role g T Y) => (⟨z.row.cr.at_ 10, by have hq := z.row.cr.at_ 0; rw [← hsv]; exact hq, by have hq := z.sm.1.choose_spec.look sv true; rw [hso] at hq; exact hq, by have hq := (z.so sv true).cr.at_ 1; rw [hso, hmay] at hq; exact hq, by have hq := (z.so sv true).cr.fr 1; rw [hso] at hq; exact hq⟩ : u.cell? ⟨g, 10, none⟩ = some (.map (some Y.ms)) ∧ u.cell? ⟨g, 0, none⟩ = some (.bool sv) ∧ (Instr.lookup 57 (.map (some Y.ms)) (.agg #[.bool sv, .bool true]) false).run Try.prog u = .ok (.pointer (some ⟨so, 0, none⟩)) u ∧ u.cell? ⟨so, 1, none⟩ = some (.int .u64 (may : Int)) ∧ u.frozen? ⟨so, 1, none⟩ = false))
  have HSO := Lib.hid (fun (u : World) (z : TZ u role g T Y) => (by have hq := z.setSoC sv true 1 (u64 Z) (s := { T.so sv true with may := Z }) rfl; rw [hso] at hq; exact hq : TZ (u.setCell ⟨so, 1, none⟩ (u64 Z)) role g (Pi.setSo T sv true { T.so sv true with may := Z }) Y ∧ Stq (fun r => r ≠ 0) u (u.setCell ⟨so, 1, none⟩ (u64 Z)) role role))
  have HNE := Lib.hid (show so ≠ gf from fun he => by have hq := (h.so sv true).cr.lt; rw [hso] at hq; omega)
  have H1 := Lib.hid (h.bel hb)
  unfold u64 at HSO
  unfold ptr
  clear hA hb h hsv hmay hso hX hZ hn
  go_enter Try.func11, Try.ntmps11
  go_upto_region 19 with (first
    | (refine L_loadG 37 _ rfl (by rfl) _ _ rfl _ _ HA.out.rng Try.underlying37 rfl iFr ?_)
    | (go_at_call 23; refine (HO.out W1).mono ?_; rintro x w2 ⟨rfl, B2⟩
       have HA2 := Lib.hid (HA.out.bel B2)
       have HB2 := Lib.hid (HB.out.trans (B2.mono HB.out.size))
       have HZ2 := Lib.hid (H1.out.bel B2)
       have c0 : w2.cell? ⟨gf, 0, none⟩ = some (.int .u64 19) := HA2.out.at_ 0
       clear B2))
  have g10 := (HF.out _ HZ2.out).1
  have g0 := (HF.out _ HZ2.out).2.1
  have l0 : ∀ m, (Instr.lookup 57 (.map (some Y.ms)) (.agg #[.bool sv, .bool true]) false).run Try.prog (w2.drewN m) = .ok (.pointer (some ⟨so, 0, none⟩)) (w2.drewN m) := fun m => (HF.out _ (HZ2.out.bel (bel_drewN _ w2 m))).2.2.1
  clear hW1 hg
  go_quiet (fail)
  clear g10 g0 l0 c0
  have bV := bel_drewN w2.heap.size w2 nq
  obtain ⟨U, hU⟩ : ∃ q, w2.drewN nq = q := ⟨_, rfl⟩
  rw [hU] at bV ⊢
  have HZU := Lib.hid (HZ2.out.bel bV)
  have HAU := Lib.hid (HA2.out.bel bV)
  have HBU := Lib.hid (HB2.out.trans (bV.mono HB2.out.size))
  clear bV hU
  go_wp2_with fail
  have bV : Below U.heap.size U U.drew := bel_drew _ _
  obtain ⟨V, hV⟩ : ∃ V, U.drew = V := ⟨_, rfl⟩
  rw [hV] at bV
  have HZV := Lib.hid (HZU.out.bel bV)
  have HAV := Lib.hid (HAU.out.bel bV)
  have HBV := Lib.hid (HBU.out.trans (bV.mono HBU.out.size))
  have c3 : V.cell? ⟨gf, 3, none⟩ = some (.int .u64 (n : Int)) := HAV.out.at_ 3
  have s1 := (HF.out _ HZV.out).2.2.2.1
  have f1 := (HF.out _ HZV.out).2.2.2.2
  clear bV
  refine wp_region_held_drew (S := fun u => u.cell? ⟨gf, 3, none⟩ = some (.int .u64 (n : Int))) (by kernel_rfl) (by rw [hV]; exact c3) (fun hHeld => ?_)
  rw [hV] at hHeld ⊢
  clear hV c3
  have hmn := HMN.out
  have hmd := HMX.out
  refine wpAnyH_take (i := 0) (v := .pointer (some ⟨so, 0, none⟩)) rfl (by kernel_rfl) (by kernel_rfl) (by kernel_rfl) (fun _ _ _ h => h) (Or.inl ⟨by rfl, fun w h => by go_simp⟩) hHeld ?_
  try simp only [Act.put, List.getElem_toArray, List.getElem_cons_zero, List.setIfInBounds_toArray, List.set_cons_zero, List.set_cons_succ]
  refine wpAnyH_take (i := 1) (v := .pointer (some ⟨so, 0, none⟩)) rfl (by kernel_rfl) (by kernel_rfl) (by kernel_rfl) (fun _ _ _ h => h) (Or.inl ⟨by rfl, fun w h => by go_simp⟩) hHeld ?_
  try simp only [Act.put, List.getElem_toArray, List.getElem_cons_succ, List.getElem_cons_zero, List.setIfInBounds_toArray, List.set_cons_zero, List.set_cons_succ]
  refine wpAnyH_take (i := 2) (v := .pointer (some ⟨so, 0, none⟩)) rfl (by kernel_rfl) (by kernel_rfl) (by kernel_rfl) (fun _ _ _ h => h) (Or.inl ⟨by rfl, fun w h => by go_simp⟩) hHeld ?_
  try simp only [Act.put, List.getElem_toArray, List.getElem_cons_succ, List.getElem_cons_zero, List.setIfInBounds_toArray, List.set_cons_zero, List.set_cons_succ]
  refine wpAnyH_take (i := 3) (v := .pointer (some ⟨so, 1, none⟩)) rfl (by kernel_rfl) (by kernel_rfl) (by kernel_rfl) (fun _ _ _ h => h) (Or.inl ⟨by rfl, fun w h => by go_simp⟩) hHeld ?_
  try simp only [Act.put, List.getElem_toArray, List.getElem_cons_succ, List.getElem_cons_zero, List.setIfInBounds_toArray, List.set_cons_zero, List.set_cons_succ]
  refine wpAnyH_take (i := 5) (v := .pointer (some ⟨gf, 3, none⟩)) rfl (by kernel_rfl) (by kernel_rfl) (by kernel_rfl) (fun _ _ _ h => h) (Or.inl ⟨by rfl, fun w h => by go_simp⟩) hHeld ?_
  try simp only [Act.put, List.getElem_toArray, List.getElem_cons_succ, List.getElem_cons_zero, List.setIfInBounds_toArray, List.set_cons_zero, List.set_cons_succ]
  refine wpAnyH_take (i := 6) (v := .int .u64 (n : Int)) rfl (by kernel_rfl) (by kernel_rfl) (by kernel_rfl) (fun _ _ _ h => h) (Or.inl ⟨by rfl, fun w h => by go_simp⟩) hHeld ?_
  try simp only [Act.put, List.getElem_toArray, List.getElem_cons_succ, List.getElem_cons_zero, List.setIfInBounds_toArray, List.set_cons_zero, List.set_cons_succ]
  refine wpAnyH_take (i := 7) (v := .int .u64 (X : Int)) rfl (by kernel_rfl) (by kernel_rfl) (by kernel_rfl) (fun _ _ _ h => h) (Or.inl ⟨by rfl, fun w h => by go_simp⟩) hHeld ?_
  try simp only [Act.put, List.getElem_toArray, List.getElem_cons_succ, List.getElem_cons_zero, List.setIfInBounds_toArray, List.set_cons_zero, List.set_cons_succ]
  refine wpAnyH_ready (rs := [4]) (by kernel_rfl) (by simp) (AllReadyH.cons rfl (fun K hK => ?_) AllReadyH.nil)
  go_simp
  refine hK.out _ _ hHeld (fun hHeld => ?_)
  clear hK K
  try simp only [Act.put, List.getElem_toArray, List.getElem_cons_succ, List.getElem_cons_zero, List.setIfInBounds_toArray, List.set_cons_zero, List.set_cons_succ]
  refine wpAnyH_take (i := 8) (v := .int .u64 (Z : Int)) rfl (by kernel_rfl) (by kernel_rfl) (by kernel_rfl) (fun _ _ _ h => h) (Or.inl ⟨by rfl, fun w h => by go_simp⟩) hHeld ?_
  try simp only [Act.put, List.getElem_toArray, List.getElem_cons_succ, List.getElem_cons_zero, List.setIfInBounds_toArray, List.set_cons_zero, List.set_cons_succ]
  refine wpAnyH_take (i := 9) (v := .pointer (some ⟨so, 0, none⟩)) rfl (by kernel_rfl) (by kernel_rfl) (by kernel_rfl) (fun _ _ _ h => h) (Or.inl ⟨by rfl, fun w h => by go_simp⟩) hHeld ?_
  try simp only [Act.put, List.getElem_toArray, List.getElem_cons_succ, List.getElem_cons_zero, List.setIfInBounds_toArray, List.set_cons_zero, List.set_cons_succ]
  refine wpAnyH_take (i := 10) (v := .pointer (some ⟨so, 1, none⟩)) rfl (by kernel_rfl) (by kernel_rfl) (by kernel_rfl) (fun _ _ _ h => h) (Or.inl ⟨by rfl, fun w h => by go_simp⟩) hHeld ?_
  try simp only [Act.put, List.getElem_toArray, List.getElem_cons_succ, List.getElem_cons_zero, List.setIfInBounds_toArray, List.set_cons_zero, List.set_cons_succ]
  refine wpAnyH_ready (rs := [11]) (by kernel_rfl) (by simp) (AllReadyH.cons rfl (fun K hK => ?_) AllReadyH.nil)
  go_simp
  refine hK.out _ _ ((HAV.out.grown (grown_set V so 1 _) (fun he => by injection he with he; exact HNE.out he.symm)).at_ 3) (fun hHeld => ?_)
  clear hK K s1 f1 hHeld hmn hmd
  try simp only [Act.put, List.getElem_toArray, List.getElem_cons_succ, List.getElem_cons_zero, List.setIfInBounds_toArray, List.set_cons_zero, List.set_cons_succ]
  refine wpAnyH_done (by kernel_rfl) ?_ _
  try simp only [Act.put, List.getElem_toArray, List.getElem_cons_succ, List.getElem_cons_zero]
  go_wp2_with fail
  go_ret
  exact ⟨rfl, (HSO.out V HZV.out).1, (Stq.bel HBV.out HH.out.top).trans (HSO.out V HZV.out).2⟩
end
end Go.Proofs.Yteekafpkbdbadaa.Pi
