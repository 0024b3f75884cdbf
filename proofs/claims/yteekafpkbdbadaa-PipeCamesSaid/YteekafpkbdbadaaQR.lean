/- pipe: bytes and Hear of a Stream frame without data. -/
import Derived.Test.YteekafpkbdbadaaQP
import Derived.Test.YteekafpkbdbadaaOT
import Derived.Test.YteekafpkbdbadaaQF
set_option maxRecDepth 100000
set_option linter.unusedVariables false
namespace Go.Proofs.Yteekafpkbdbadaa.Pi
open Go.RowKit
/-- a stream of the other side may be heard of, without data: it is new, or nothing came of it yet -/
structure NES (T : TaS) (Y : TaY) (id d : Nat) : Prop where
  il : id < 4611686018427387904
  ow : (od id == T.srv) = false
  dk : (T.so (od id) (wy id)).known + d = max (T.so (od id) (wy id)).known (id / 4 + 1)
  kb : (T.so (od id) (wy id)).known < 1152921504606846976
  va : ∀ i, (T.so (od id) (wy id)).known ≤ i → T.l (i * 4 + id % 4) = none
  yn : Y.n + d < 1000000
  yc : Y.ca.n + d < 1000000
  fr : id / 4 < (T.so (od id) (wy id)).known → ∃ s i, T.l id = some s ∧ s.inn = some i ∧ i.qu = ⟨[], 0, 0, 0, false⟩
  cl : T.ti.c ≤ T.ti.l
  ll : T.ti.l < 18446744073709551616
theorem NES.after {T : TaS} {Y : TaY} {id d : Nat} (h : NES T Y id d) : ∃ s i, (knowK T (od id) (wy id) (id % 4) d).l id = some s ∧ s.inn = some i ∧ i.qu = ⟨[], 0, 0, 0, false⟩ := by
  by_cases hl : id / 4 < (T.so (od id) (wy id)).known
  · obtain ⟨s, i, h1, h2, h3⟩ := h.fr hl
    refine ⟨s, i, ?_, h2, h3⟩
    rw [knowK_l, if_neg (by rintro ⟨j, a, b⟩; omega)]
    exact h1
  · refine ⟨stN T id, in0 T.ow.w, ?_, ?_, rfl⟩
    · have := h.dk
      rw [knowK_l, if_pos ⟨id / 4 - (T.so (od id) (wy id)).known, by omega, by omega⟩]
    · unfold stN
      simp only [h.ow, Bool.not_false, Bool.true_or, if_true]
section
variable {w w' : World} {role : Nat → Nat} {g : Nat} {T : TaS} {Y : TaY}
theorem fits_e (h : TZ w role g T Y) {id d : Nat} (hn : NES T Y id d) : Calls Try.prog 44 #[ptr g, .int .u64 (id : Int), .int .u64 0, .bool false] w fun e w' => e = .returned (.int .u64 0) ∧ Below w.heap.size w w' := by
  by_cases hl : id / 4 < (T.so (od id) (wy id)).known
  · obtain ⟨s, i, h1, h2, h3⟩ := hn.fr hl
    exact fits_old_0 h (by have := hn.il; omega) h1 h2 (by rw [h3])
  · have hno : T.l id = none := by
      have := hn.va (id / 4) (by omega)
      rwa [show id / 4 * 4 + id % 4 = id by omega] at this
    exact fits_new_false_0 h (id := id) (high := 0) (by have := hn.il; omega) hno rfl (Nat.zero_le _) (Nat.zero_le _) (Nat.zero_le _) hn.cl hn.ll
set_option maxHeartbeats 4000000 in
theorem bytes_e (h : TZ w role g T Y) {id d : Nat} (hn : NES T Y id d) :
    Calls Try.prog 25 #[ptr g, .agg (frc 8 id 0 0 0 false SA0 SA0 SA0).toArray] w fun e w' => e = .returned (.int .u64 0) ∧ ∃ role' Y', TZ w' role' g (knowK T (od id) (wy id) (id % 4) d) Y' ∧ Stq (fun r => r ≠ 0) w w' role role' ∧ YK Y Y' d := by
  obtain ⟨gf, hg⟩ : ∃ k, w.heap.size = k := ⟨_, rfl⟩
  have hA := CR.new w 37 (frc 8 id 0 0 0 false SA0 SA0 SA0)
  have hb := below_alloc w (.cells (frc 8 id 0 0 0 false SA0 SA0 SA0).toArray 37)
  unfold frc SA0 at hA hb
  unfold frc SA0
  obtain ⟨W1, hW1⟩ : ∃ x, w.alloc (.cells ([.int .u64 8, .int .u64 (id : Int), .int .u64 0, .int .u64 0, .int .u64 0, .bool false, .slice none 0 0, .slice none 0 0, .slice none 0 0] : List Value).toArray 37) = x := ⟨_, rfl⟩
  rw [hW1, hg] at hA
  rw [hW1] at hb
  have HA := Lib.hid hA
  have HB := Lib.hid hb
  have HN := Lib.hid hn
  have H := Lib.hid h
  have H1 := Lib.hid (h.bel hb)
  have HRG := Lib.hid (show role gf = 0 from h.top gf (Nat.le_of_eq hg))
  have c1 : W1.cell? ⟨gf, 1, none⟩ = some (.int .u64 (id : Int)) := HA.out.at_ 1
  have c2 : W1.cell? ⟨gf, 2, none⟩ = some (.int .u64 0) := HA.out.at_ 2
  have c5 : W1.cell? ⟨gf, 5, none⟩ = some (.bool false) := HA.out.at_ 5
  have c6 : W1.cell? ⟨gf, 6, none⟩ = some (.slice none 0 0) := HA.out.at_ 6
  have HF := Lib.hid (fits_e H1.out hn)
  unfold ptr at HF ⊢
  clear hA hb h hn
  go_enter Try.func25, Try.ntmps25
  go_upto_region 5 with (go_at_call 44; refine HF.out.mono ?_; rintro x w2 ⟨rfl, B2⟩)
  have HA2 := Lib.hid (HA.out.bel B2)
  have H2 := Lib.hid (H1.out.bel B2)
  have HB2 := Lib.hid (HB.out.trans (B2.mono HB.out.size))
  clear c1 c2 c5 c6 B2 hW1 hg
  have c1 : w2.cell? ⟨gf, 1, none⟩ = some (.int .u64 (id : Int)) := HA2.out.at_ 1
  have HKN := Lib.hid (know_any H2.out (id := id) (s := od id) (u := wy id) (d := d) HN.out.il HN.out.ow rfl rfl HN.out.va HN.out.dk HN.out.kb HN.out.yn HN.out.yc)
  unfold ptr at HKN
  go_upto_region 6 with (go_at_call 27; refine HKN.out.mono ?_; rintro x w3 ⟨rfl, role3, Y3, z3, t3, y3⟩)
  obtain ⟨s1, i1, hs1, hi1, hq1⟩ := HN.out.after
  have HSI := Lib.hid (⟨hs1, hi1, hq1⟩ : (knowK T (od id) (wy id) (id % 4) d).l id = some s1 ∧ s1.inn = some i1 ∧ i1.qu = ⟨[], 0, 0, 0, false⟩)
  clear hs1 hi1 hq1
  obtain ⟨ib, e1, e2⟩ := z3.inz HSI.out.1 HSI.out.2.1
  have HA3 := Lib.hid (HA2.out.keep (w' := w3) (t3.blk gf HA2.out.lt (by rw [HRG.out]; exact fun hh => hh rfl)))
  have HRG3 := Lib.hid ((t3.old gf HA2.out.lt).trans HRG.out)
  have HZ3 := Lib.hid z3
  have HY3 := Lib.hid y3
  have HS3 := Lib.hid ((Stq.bel (R := fun r => r ≠ 0) HB2.out H.out.top).trans t3)
  have HE2 := Lib.hid e2
  clear c1 z3 t3 y3 e2
  obtain ⟨sb, hsb⟩ : ∃ q, Y3.sb id = q := ⟨_, rfl⟩
  rw [hsb] at e1
  have HE1 := Lib.hid e1
  have HSB := Lib.hid hsb
  have c1 : w3.cell? ⟨gf, 1, none⟩ = some (.int .u64 (id : Int)) := HA3.out.at_ 1
  have g9 : w3.cell? ⟨g, 9, none⟩ = some (.map (some Y3.ml)) := HZ3.out.row.cr.at_ 9
  have l0 : ∀ m, (Instr.lookup 56 (.map (some Y3.ml)) (.int .u64 (id : Int)) false).run Try.prog (w3.drewN m) = .ok (.pointer (some ⟨sb, 0, none⟩)) (w3.drewN m) := fun m => by have hq := (HZ3.out.bel (bel_drewN _ w3 m)).lm.1.look id (by have := HN.out.il; omega); simp only [HSI.out.1, HSB.out, Option.map_some] at hq; exact hq
  unfold ptr at e1
  clear hsb
  go_quiet (fail)
  clear c1 g9 l0 e1
  have bV := bel_drewN w3.heap.size w3 nq
  obtain ⟨U, hU⟩ : ∃ q, w3.drewN nq = q := ⟨_, rfl⟩
  rw [hU] at bV ⊢
  have HZU := Lib.hid (HZ3.out.bel bV)
  have HAU := Lib.hid (HA3.out.bel bV)
  have HSU := Lib.hid (HS3.out.trans (Stq.bel bV HZ3.out.top))
  have HIU := Lib.hid ((InZ.stq HE2.out (Stq.bel (R := fun _ => False) bV HZ3.out.top).kq (fun _ _ _ h => h)))
  have HE1U := Lib.hid (show U.cell? ⟨Y3.sb id, 6, none⟩ = some (ptr ib) by obtain ⟨ob, ib2, a, _⟩ := (HZ3.out.st id _ HSI.out.1).ex; rw [(a.cr.bel bV).at_, ← a.cr.at_, HSB.out]; exact HE1.out)
  clear bV hU
  have HCT := Lib.hid (count_0 HZU.out (id := id) (ib := ib) HSI.out.1 HSI.out.2.1 HE1U.out HIU.out)
  unfold ptr at HCT
  go_upto_region 8 with (go_at_call 45; refine HCT.out.mono ?_; rintro x w4 ⟨rfl, z4, t4, e3, e4⟩)
  obtain ⟨ti, qb, ip⟩ := e4.ip
  have HA4 := Lib.hid (HAU.out.keep (w' := w4) (t4.blk gf HAU.out.lt (by rw [HRG3.out]; exact fun hh => hh rfl)))
  have HZ4 := Lib.hid z4
  have HS4 := Lib.hid (HSU.out.trans t4)
  have HI4 := Lib.hid ip
  have HE3 := Lib.hid e3
  clear z4 t4 e3 e4 ip
  have bV : Below w4.heap.size w4 w4.drew := bel_drew _ _
  obtain ⟨V, hV⟩ : ∃ V, w4.drew = V := ⟨_, rfl⟩
  rw [hV] at bV
  have HAV := Lib.hid (HA4.out.bel bV)
  have HZV := Lib.hid (HZ4.out.bel bV)
  have HSV := Lib.hid (HS4.out.trans (Stq.bel bV HZ4.out.top))
  have HIV := Lib.hid (HI4.out.bel bV HZ4.out.top)
  have HEV := Lib.hid (show V.cell? ⟨Y3.sb id, 6, none⟩ = some (ptr ib) by obtain ⟨ob, ib2, a, _⟩ := (HZ4.out.st id _ HSI.out.1).ex; rw [(a.cr.bel bV).at_, ← a.cr.at_]; exact HE3.out)
  clear bV
  have s1c : V.cell? ⟨ib, 1, none⟩ = some (.pointer (some ⟨qb, 0, none⟩)) := HIV.out.ic.cr.at_ 1
  have c2 : V.cell? ⟨gf, 2, none⟩ = some (.int .u64 0) := HAV.out.at_ 2
  have c5 : V.cell? ⟨gf, 5, none⟩ = some (.bool false) := HAV.out.at_ 5
  have c6 : V.cell? ⟨gf, 6, none⟩ = some (.slice none 0 0) := HAV.out.at_ 6
  have HPT := Lib.hid (put_nil (r := rid id) (qb := qb) (by have hq := HIV.out.qz; rw [HSI.out.2.2] at hq; exact hq) HZV.out.top)
  unfold ptr at HPT
  refine wp_region_held_drew (S := fun x => x.cell? ⟨ib, 1, none⟩ = some (.pointer (some ⟨qb, 0, none⟩)) ∧ x.cell? ⟨gf, 2, none⟩ = some (.int .u64 0) ∧ x.cell? ⟨gf, 5, none⟩ = some (.bool false) ∧ x.cell? ⟨gf, 6, none⟩ = some (.slice none 0 0)) (by kernel_rfl) (by rw [hV]; exact ⟨s1c, c2, c5, c6⟩) (fun hHeld => ?_)
  rw [hV] at hHeld ⊢
  clear hV s1c c2 c5 c6
  refine wpAnyH_take (i := 0) (v := .pointer (some ⟨ib, 0, none⟩)) rfl (by kernel_rfl) (by kernel_rfl) (by kernel_rfl) (fun _ _ _ h => h) (Or.inl ⟨by rfl, fun w h => by go_simp⟩) hHeld ?_
  try simp only [Act.put, List.getElem_toArray, List.getElem_cons_zero, List.setIfInBounds_toArray, List.set_cons_zero, List.set_cons_succ]
  refine wpAnyH_take (i := 1) (v := .pointer (some ⟨ib, 0, none⟩)) rfl (by kernel_rfl) (by kernel_rfl) (by kernel_rfl) (fun _ _ _ h => h) (Or.inl ⟨by rfl, fun w h => by go_simp⟩) hHeld ?_
  try simp only [Act.put, List.getElem_toArray, List.getElem_cons_succ, List.getElem_cons_zero, List.setIfInBounds_toArray, List.set_cons_zero, List.set_cons_succ]
  refine wpAnyH_take (i := 2) (v := .pointer (some ⟨ib, 1, none⟩)) rfl (by kernel_rfl) (by kernel_rfl) (by kernel_rfl) (fun _ _ _ h => h) (Or.inl ⟨by rfl, fun w h => by go_simp⟩) hHeld ?_
  try simp only [Act.put, List.getElem_toArray, List.getElem_cons_succ, List.getElem_cons_zero, List.setIfInBounds_toArray, List.set_cons_zero, List.set_cons_succ]
  refine wpAnyH_take (i := 3) (v := .pointer (some ⟨qb, 0, none⟩)) rfl (by kernel_rfl) (by kernel_rfl) (by kernel_rfl) (fun _ _ _ h => h) (Or.inl ⟨by rfl, fun w h => by have h2 := h.1; go_simp⟩) hHeld ?_
  try simp only [Act.put, List.getElem_toArray, List.getElem_cons_succ, List.getElem_cons_zero, List.setIfInBounds_toArray, List.set_cons_zero, List.set_cons_succ]
  refine wpAnyH_take (i := 4) (v := .pointer (some ⟨gf, 2, none⟩)) rfl (by kernel_rfl) (by kernel_rfl) (by kernel_rfl) (fun _ _ _ h => h) (Or.inl ⟨by rfl, fun w h => by go_simp⟩) hHeld ?_
  try simp only [Act.put, List.getElem_toArray, List.getElem_cons_succ, List.getElem_cons_zero, List.setIfInBounds_toArray, List.set_cons_zero, List.set_cons_succ]
  refine wpAnyH_take (i := 5) (v := .int .u64 0) rfl (by kernel_rfl) (by kernel_rfl) (by kernel_rfl) (fun _ _ _ h => h) (Or.inl ⟨by rfl, fun w h => by have h2 := h.2.1; go_simp⟩) hHeld ?_
  try simp only [Act.put, List.getElem_toArray, List.getElem_cons_succ, List.getElem_cons_zero, List.setIfInBounds_toArray, List.set_cons_zero, List.set_cons_succ]
  refine wpAnyH_take (i := 6) (v := .pointer (some ⟨gf, 6, none⟩)) rfl (by kernel_rfl) (by kernel_rfl) (by kernel_rfl) (fun _ _ _ h => h) (Or.inl ⟨by rfl, fun w h => by go_simp⟩) hHeld ?_
  try simp only [Act.put, List.getElem_toArray, List.getElem_cons_succ, List.getElem_cons_zero, List.setIfInBounds_toArray, List.set_cons_zero, List.set_cons_succ]
  refine wpAnyH_take (i := 7) (v := .slice none 0 0) rfl (by kernel_rfl) (by kernel_rfl) (by kernel_rfl) (fun _ _ _ h => h) (Or.inl ⟨by rfl, fun w h => by have h2 := h.2.2.2; go_simp⟩) hHeld ?_
  try simp only [Act.put, List.getElem_toArray, List.getElem_cons_succ, List.getElem_cons_zero, List.setIfInBounds_toArray, List.set_cons_zero, List.set_cons_succ]
  refine wpAnyH_take (i := 8) (v := .pointer (some ⟨gf, 5, none⟩)) rfl (by kernel_rfl) (by kernel_rfl) (by kernel_rfl) (fun _ _ _ h => h) (Or.inl ⟨by rfl, fun w h => by go_simp⟩) hHeld ?_
  try simp only [Act.put, List.getElem_toArray, List.getElem_cons_succ, List.getElem_cons_zero, List.setIfInBounds_toArray, List.set_cons_zero, List.set_cons_succ]
  refine wpAnyH_take (i := 9) (v := .bool false) rfl (by kernel_rfl) (by kernel_rfl) (by kernel_rfl) (fun _ _ _ h => h) (Or.inl ⟨by rfl, fun w h => by have h2 := h.2.2.1; go_simp⟩) hHeld ?_
  try simp only [Act.put, List.getElem_toArray, List.getElem_cons_succ, List.getElem_cons_zero, List.setIfInBounds_toArray, List.set_cons_zero, List.set_cons_succ]
  clear hHeld
  refine wpAnyH_ready (rs := [10]) (by kernel_rfl) (by simp) (AllReadyH.cons rfl (fun K hK => ?_) AllReadyH.nil)
  go_simp
  go_at_call 46
  refine HPT.out.mono ?_
  rintro x w5 ⟨rfl, q5, t5⟩
  have ic5 := HIV.out.ic.stq t5.kq (by omega)
  have tz5 := cr_stq HIV.out.tz HIV.out.tr t5.kq (by omega)
  have a5 := HAV.out.keep (w' := w5) (t5.blk gf HAV.out.lt (by rw [HRG3.out]; unfold rid; omega))
  have z5 := HZV.out.setIn HSI.out.1 HSI.out.2.1 i1 (t5.mono (fun r hr => by omega)) (fun ib' f1 f2 => by
    rw [HEV.out] at f1
    unfold ptr at f1
    simp at f1
    subst f1
    exact (⟨ic5, tz5.1, tz5.2, by rw [HSI.out.2.2]; exact q5⟩ : IP w5 role3 (rid id) ib ti qb i1).inz)
  rw [setIn_self HSI.out.1 HSI.out.2.1] at z5
  have HZ5 := Lib.hid z5
  refine hK.out _ _ ⟨ic5.cr.at_ 1, a5.at_ 2, a5.at_ 5, a5.at_ 6⟩ (fun hHeld => ?_)
  clear hK K hHeld ic5 tz5 a5 q5 t5 z5
  try simp only [Act.put, List.getElem_toArray, List.getElem_cons_succ, List.getElem_cons_zero, List.setIfInBounds_toArray, List.set_cons_zero, List.set_cons_succ]
  refine wpAnyH_done (by kernel_rfl) ?_ _
  try simp only [Act.put, List.getElem_toArray, List.getElem_cons_succ, List.getElem_cons_zero]
  go_wp2_with fail
  go_ret
  exact ⟨rfl, role3, Y3, HZ5.out.1, HSV.out.trans HZ5.out.2, HY3.out⟩
set_option maxHeartbeats 4000000 in
theorem hear_e_true (h : TZ w role g T Y) {id d : Nat} (hn : NES T Y id d) (hw : wy id = true) (hm : id / 4 < (T.so (od id) true).may) :
    Calls Try.prog 11 #[ptr g, .agg (frc 8 id 0 0 0 false SA0 SA0 SA0).toArray] w fun e w' => e = .returned (.int .u64 0) ∧ ∃ role' Y', TZ w' role' g (knowK T (od id) (wy id) (id % 4) d) Y' ∧ Stq (fun r => r ≠ 0) w w' role role' ∧ YK Y Y' d := by
  obtain ⟨gf, hg⟩ : ∃ k, w.heap.size = k := ⟨_, rfl⟩
  have hA := CR.new w 37 (frc 8 id 0 0 0 false SA0 SA0 SA0)
  have hb := below_alloc w (.cells (frc 8 id 0 0 0 false SA0 SA0 SA0).toArray 37)
  have HO := Lib.hid (fun (x : World) (bx : Below w.heap.size w x) => odd_8_false x (id := id) (da := SA0) (t := []) (RS_nil x 1) ⟨by have := hn.il; omega, (show 0 + 0 ≤ _ by decide), (show 0 ≤ 1200 by decide)⟩)
  have HM := Lib.hid (fun (x : World) (hz : TZ x role g T Y) => may_8_ft_ok hz (id := id) (off := 0) (fin := false) (da := SA0) (by have := hn.il; omega) hn.ow hw hm)
  have HBY := Lib.hid (fun (x : World) (hz : TZ x role g T Y) => bytes_e hz hn)
  unfold frc SA0 ptr at HBY
  unfold frc SA0 at hA hb HO HM
  unfold frc SA0
  obtain ⟨W1, hW1⟩ : ∃ x, w.alloc (.cells ([.int .u64 8, .int .u64 (id : Int), .int .u64 0, .int .u64 0, .int .u64 0, .bool false, .slice none 0 0, .slice none 0 0, .slice none 0 0] : List Value).toArray 37) = x := ⟨_, rfl⟩
  rw [hW1, hg] at hA
  rw [hW1] at hb
  have HA := Lib.hid hA
  have HB := Lib.hid hb
  have H := Lib.hid h
  have H1 := Lib.hid (h.bel hb)
  unfold ptr at HM ⊢
  clear hA hb h
  go_enter Try.func11, Try.ntmps11
  go_upto_region 12 with (first
    | (refine L_loadG 37 _ rfl (by rfl) _ _ rfl _ _ HA.out.rng Try.underlying37 rfl iFr ?_)
    | (go_at_call 23; refine (HO.out W1 HB.out).mono ?_; rintro x w2 ⟨rfl, B2⟩
       have HA2 := Lib.hid (HA.out.bel B2)
       have HB2 := Lib.hid (HB.out.trans (B2.mono HB.out.size))
       have H2 := Lib.hid (H1.out.bel B2)
       have c0 : w2.cell? ⟨gf, 0, none⟩ = some (.int .u64 8) := HA2.out.at_ 0
       clear B2)
    | (refine L_loadG 37 _ rfl (by rfl) _ _ rfl _ _ HA2.out.rng Try.underlying37 rfl iFr ?_)
    | (go_at_call 24; refine (HM.out w2 H2.out).mono ?_; rintro x w3 ⟨rfl, B3⟩))
  have HA3 := Lib.hid (HA2.out.bel B3)
  have HB3 := Lib.hid (HB2.out.trans (B3.mono HB2.out.size))
  have H3 := Lib.hid (H2.out.bel B3)
  clear c0 B3 hW1 hg
  have c0 : w3.cell? ⟨gf, 0, none⟩ = some (.int .u64 8) := HA3.out.at_ 0
  have HY := Lib.hid (HBY.out w3 H3.out)
  go_wp2_with (first
    | (refine L_loadG 37 _ rfl (by rfl) _ _ rfl _ _ HA3.out.rng Try.underlying37 rfl iFr ?_)
    | (go_at_call 25; refine HY.out.mono ?_; rintro x w4 ⟨rfl, role4, Y4, z4, t4, y4⟩))
  go_ret
  exact ⟨rfl, role4, Y4, z4, (Stq.bel (R := fun r => r ≠ 0) HB3.out H.out.top).trans t4, y4⟩
set_option maxHeartbeats 4000000 in
theorem hear_e_false (h : TZ w role g T Y) {id d : Nat} (hn : NES T Y id d) (hw : wy id = false) (hm : id / 4 < (T.so (od id) false).may) :
    Calls Try.prog 11 #[ptr g, .agg (frc 8 id 0 0 0 false SA0 SA0 SA0).toArray] w fun e w' => e = .returned (.int .u64 0) ∧ ∃ role' Y', TZ w' role' g (knowK T (od id) (wy id) (id % 4) d) Y' ∧ Stq (fun r => r ≠ 0) w w' role role' ∧ YK Y Y' d := by
  obtain ⟨gf, hg⟩ : ∃ k, w.heap.size = k := ⟨_, rfl⟩
  have hA := CR.new w 37 (frc 8 id 0 0 0 false SA0 SA0 SA0)
  have hb := below_alloc w (.cells (frc 8 id 0 0 0 false SA0 SA0 SA0).toArray 37)
  have HO := Lib.hid (fun (x : World) (bx : Below w.heap.size w x) => odd_8_false x (id := id) (da := SA0) (t := []) (RS_nil x 1) ⟨by have := hn.il; omega, (show 0 + 0 ≤ _ by decide), (show 0 ≤ 1200 by decide)⟩)
  have HM := Lib.hid (fun (x : World) (hz : TZ x role g T Y) => may_8_ff_ok hz (id := id) (off := 0) (fin := false) (da := SA0) (by have := hn.il; omega) hn.ow hw hm)
  have HBY := Lib.hid (fun (x : World) (hz : TZ x role g T Y) => bytes_e hz hn)
  unfold frc SA0 ptr at HBY
  unfold frc SA0 at hA hb HO HM
  unfold frc SA0
  obtain ⟨W1, hW1⟩ : ∃ x, w.alloc (.cells ([.int .u64 8, .int .u64 (id : Int), .int .u64 0, .int .u64 0, .int .u64 0, .bool false, .slice none 0 0, .slice none 0 0, .slice none 0 0] : List Value).toArray 37) = x := ⟨_, rfl⟩
  rw [hW1, hg] at hA
  rw [hW1] at hb
  have HA := Lib.hid hA
  have HB := Lib.hid hb
  have H := Lib.hid h
  have H1 := Lib.hid (h.bel hb)
  unfold ptr at HM ⊢
  clear hA hb h
  go_enter Try.func11, Try.ntmps11
  go_upto_region 12 with (first
    | (refine L_loadG 37 _ rfl (by rfl) _ _ rfl _ _ HA.out.rng Try.underlying37 rfl iFr ?_)
    | (go_at_call 23; refine (HO.out W1 HB.out).mono ?_; rintro x w2 ⟨rfl, B2⟩
       have HA2 := Lib.hid (HA.out.bel B2)
       have HB2 := Lib.hid (HB.out.trans (B2.mono HB.out.size))
       have H2 := Lib.hid (H1.out.bel B2)
       have c0 : w2.cell? ⟨gf, 0, none⟩ = some (.int .u64 8) := HA2.out.at_ 0
       clear B2)
    | (refine L_loadG 37 _ rfl (by rfl) _ _ rfl _ _ HA2.out.rng Try.underlying37 rfl iFr ?_)
    | (go_at_call 24; refine (HM.out w2 H2.out).mono ?_; rintro x w3 ⟨rfl, B3⟩))
  have HA3 := Lib.hid (HA2.out.bel B3)
  have HB3 := Lib.hid (HB2.out.trans (B3.mono HB2.out.size))
  have H3 := Lib.hid (H2.out.bel B3)
  clear c0 B3 hW1 hg
  have c0 : w3.cell? ⟨gf, 0, none⟩ = some (.int .u64 8) := HA3.out.at_ 0
  have HY := Lib.hid (HBY.out w3 H3.out)
  go_wp2_with (first
    | (refine L_loadG 37 _ rfl (by rfl) _ _ rfl _ _ HA3.out.rng Try.underlying37 rfl iFr ?_)
    | (go_at_call 25; refine HY.out.mono ?_; rintro x w4 ⟨rfl, role4, Y4, z4, t4, y4⟩))
  go_ret
  exact ⟨rfl, role4, Y4, z4, (Stq.bel (R := fun r => r ≠ 0) HB3.out H.out.top).trans t4, y4⟩
end
end Go.Proofs.Yteekafpkbdbadaa.Pi
