/- pipe: fits. -/
import Derived.Test.YteekafpkbdbadaaOM
set_option maxRecDepth 100000
set_option linter.unusedVariables false
namespace Go.Proofs.Yteekafpkbdbadaa.Pi
open Go.RowKit
section
variable {w w' : World} {role : Nat → Nat} {g : Nat} {T : TaS} {Y : TaY}
/-- where a stream's part to receive lies -/
structure InP (w : World) (sb ib ti qb : Nat) (i : InS) (x : SA) : Prop where
  sc : ∃ l, CR w sb 79 l ∧ l[6]? = some (.pointer (some ⟨ib, 0, none⟩))
  ic : CR w ib 89 [ptr ti, ptr qb, .bool i.reset, u64 i.code, .bool i.told, .bool i.done, .int .i64 (i.stop : Int), u64 i.why, .int .i64 (i.news : Int)]
  tz : TiZ w ti i.ti.wi i.ti.l i.ti.c i.ti.t
  qc : CR w qb 111 [x.v, u64 i.qu.read, u64 i.qu.high, u64 i.qu.last, .bool i.qu.known]
theorem InP.bel {sb ib ti qb : Nat} {i : InS} {x : SA} (h : InP w sb ib ti qb i x) (hb : Below w.heap.size w w') : InP w' sb ib ti qb i x := by
  obtain ⟨l, h1, h2⟩ := h.sc
  exact ⟨⟨l, h1.bel hb, h2⟩, h.ic.bel hb, CR.bel h.tz hb, h.qc.bel hb⟩
theorem InP.s6 {sb ib ti qb : Nat} {i : InS} {x : SA} (h : InP w sb ib ti qb i x) : w.cell? ⟨sb, 6, none⟩ = some (.pointer (some ⟨ib, 0, none⟩)) := by
  obtain ⟨l, h1, h2⟩ := h.sc
  rw [h1.at_]; exact h2
theorem TZ.inp (h : TZ w role g T Y) {id : Nat} {s : StS} {i : InS} (hs : T.l id = some s) (hi : s.inn = some i) : ∃ ib ti qb x, InP w (Y.sb id) ib ti qb i x := by
  obtain ⟨ob, ib, h1, h2, h3, h4, h5⟩ := (h.st id s hs).ex
  cases ib with
  | none => rw [hi] at h3; exact absurd (h3.2 rfl) (by simp)
  | some b =>
    obtain ⟨ti, qb, a, ⟨p1, p2⟩, c⟩ := (h5 i b hi rfl).ex
    obtain ⟨x, vs, q1, q2, q3⟩ := c.ex
    exact ⟨b, ti, qb, x, ⟨_, h1.cr, rfl⟩, a.cr, p1, q1.cr⟩
theorem qhigh_any {qb : Nat} {v0 : Value} {rd hi la : Nat} {kn : Bool} (h : CR w qb 111 [v0, u64 rd, u64 hi, u64 la, .bool kn]) : Calls Try.prog 62 #[ptr qb] w fun e w' => e = .returned (.int .u64 (hi : Int)) ∧ w = w' := by
  have c2 : w.cell? ⟨qb, 2, none⟩ = some (.int .u64 (hi : Int)) := h.at_ 2
  clear h
  unfold ptr
  go_enter Try.func62, Try.ntmps62
  go_wp2
  go_ret
  exact ⟨rfl, rfl⟩
theorem qend_any {qb : Nat} {v0 : Value} {rd hi la : Nat} {kn : Bool} (h : CR w qb 111 [v0, u64 rd, u64 hi, u64 la, .bool kn]) : Calls Try.prog 63 #[ptr qb] w fun e w' => e = .returned (.tuple #[.int .u64 (la : Int), .bool kn]) ∧ Below w.heap.size w w' := by
  have c3 : w.cell? ⟨qb, 3, none⟩ = some (.int .u64 (la : Int)) := h.at_ 3
  have c4 : w.cell? ⟨qb, 4, none⟩ = some (.bool kn) := h.at_ 4
  clear h
  unfold ptr
  go_enter Try.func63, Try.ntmps63
  go_wp2_with fail
  go_quiet (fail)
  go_wp2
  go_ret2
  exact ⟨rfl, bel_drewN _ _ _⟩
set_option maxHeartbeats 4000000 in
theorem fits_new_false_0 (h : TZ w role g T Y) {id high : Nat} (hid : id < 18446744073709551616) (hl : T.l id = none) (hz : high = 0) (h1 : high ≤ T.ow.w) (h2 : high ≤ 4611686018427387903) (h3 : high ≤ T.ti.l - T.ti.c) (h4 : T.ti.c ≤ T.ti.l) (h5 : T.ti.l < 18446744073709551616) :
    Calls Try.prog 44 #[ptr g, .int .u64 (id : Int), .int .u64 (high : Int), .bool false] w fun e w' => e = .returned (.int .u64 0) ∧ Below w.heap.size w w' := by
  obtain ⟨ow, how⟩ : ∃ n, T.ow.w = n := ⟨_, rfl⟩
  obtain ⟨tl, htl⟩ : ∃ n, T.ti.l = n := ⟨_, rfl⟩
  obtain ⟨tc, htc⟩ : ∃ n, T.ti.c = n := ⟨_, rfl⟩
  have g1 : w.cell? ⟨g, 1, none⟩ = some (.int .u64 (ow : Int)) := by rw [← how]; exact h.row.cr.at_ 1
  have g9 : w.cell? ⟨g, 9, none⟩ = some (.map (some Y.ml)) := h.row.cr.at_ 9
  have g12 : w.cell? ⟨g, 12, none⟩ = some (.pointer (some ⟨Y.ti, 0, none⟩)) := h.row.cr.at_ 12
  have l0 : (Instr.lookup 56 (.map (some Y.ml)) (.int .u64 (id : Int)) false).run Try.prog w = .ok (.pointer none) w := by have hq := h.lm.1.look id hid; simp only [hl, Option.map_none] at hq; exact hq
  have HT := Lib.hid (ttold_any h.ti.1)
  rw [how] at h1
  rw [htl] at h3 h4 h5 HT
  rw [htc] at h3 h4 HT
  obtain ⟨X, hX⟩ : ∃ X, min ow 4611686018427387903 = X := ⟨_, rfl⟩
  have HX := Lib.hid hX
  have q1 : decide ((X : Int) < (high : Int)) = false := decide_eq_false (by omega)
  have q2 : decide (X < high) = false := decide_eq_false (by omega)
  obtain ⟨D, hD⟩ : ∃ D, tl - tc = D := ⟨_, rfl⟩
  rw [hD] at h3
  have d1 : (tl : Int) - (tc : Int) = (D : Int) := by omega
  have d2 : IntKind.u64.wrap (D : Int) = (D : Int) := IntWalk.u64_in _ (by omega)
  have d3 : IntKind.u64.wrap (high : Int) = (high : Int) := IntWalk.u64_in _ (by omega)
  have d4 : decide ((D : Int) < (high : Int)) = false := decide_eq_false (by omega)
  have d5 : decide (D < high) = false := decide_eq_false (by omega)
  have d6 : decide ((high : Int) < 0) = false := decide_eq_false (by omega)
  have d7 : (high : Int) - 0 = (high : Int) := by omega
  have z1 : decide ((0 : Int) < (high : Int)) = false := decide_eq_false (by omega); have z2 : ¬ 0 < high := by omega
  clear h hl h1 h2 h3 h4 h5 how htl htc hX hD hid hz
  unfold ptr at HT ⊢
  unfold u64 at HT
  go_enter Try.func44, Try.ntmps44
  go_wp2_with (first
    | (go_at_call 61; refine HT.out.mono ?_; rintro x w2 ⟨rfl, B2⟩)
    | (refine L_min2 rfl ow 4611686018427387903 X HX.out rfl rfl (by rfl) ?_))
  go_ret
  exact ⟨rfl, B2⟩
set_option maxHeartbeats 4000000 in
theorem fits_new_true_0 (h : TZ w role g T Y) {id high : Nat} (hid : id < 18446744073709551616) (hl : T.l id = none) (hz : high = 0) (h1 : high ≤ T.ow.w) (h2 : high ≤ 4611686018427387903) (h3 : high ≤ T.ti.l - T.ti.c) (h4 : T.ti.c ≤ T.ti.l) (h5 : T.ti.l < 18446744073709551616) :
    Calls Try.prog 44 #[ptr g, .int .u64 (id : Int), .int .u64 (high : Int), .bool true] w fun e w' => e = .returned (.int .u64 0) ∧ Below w.heap.size w w' := by
  obtain ⟨ow, how⟩ : ∃ n, T.ow.w = n := ⟨_, rfl⟩
  obtain ⟨tl, htl⟩ : ∃ n, T.ti.l = n := ⟨_, rfl⟩
  obtain ⟨tc, htc⟩ : ∃ n, T.ti.c = n := ⟨_, rfl⟩
  have g1 : w.cell? ⟨g, 1, none⟩ = some (.int .u64 (ow : Int)) := by rw [← how]; exact h.row.cr.at_ 1
  have g9 : w.cell? ⟨g, 9, none⟩ = some (.map (some Y.ml)) := h.row.cr.at_ 9
  have g12 : w.cell? ⟨g, 12, none⟩ = some (.pointer (some ⟨Y.ti, 0, none⟩)) := h.row.cr.at_ 12
  have l0 : (Instr.lookup 56 (.map (some Y.ml)) (.int .u64 (id : Int)) false).run Try.prog w = .ok (.pointer none) w := by have hq := h.lm.1.look id hid; simp only [hl, Option.map_none] at hq; exact hq
  have HT := Lib.hid (ttold_any h.ti.1)
  rw [how] at h1
  rw [htl] at h3 h4 h5 HT
  rw [htc] at h3 h4 HT
  obtain ⟨X, hX⟩ : ∃ X, min ow 4611686018427387903 = X := ⟨_, rfl⟩
  have HX := Lib.hid hX
  have q1 : decide ((X : Int) < (high : Int)) = false := decide_eq_false (by omega)
  have q2 : decide (X < high) = false := decide_eq_false (by omega)
  obtain ⟨D, hD⟩ : ∃ D, tl - tc = D := ⟨_, rfl⟩
  rw [hD] at h3
  have d1 : (tl : Int) - (tc : Int) = (D : Int) := by omega
  have d2 : IntKind.u64.wrap (D : Int) = (D : Int) := IntWalk.u64_in _ (by omega)
  have d3 : IntKind.u64.wrap (high : Int) = (high : Int) := IntWalk.u64_in _ (by omega)
  have d4 : decide ((D : Int) < (high : Int)) = false := decide_eq_false (by omega)
  have d5 : decide (D < high) = false := decide_eq_false (by omega)
  have d6 : decide ((high : Int) < 0) = false := decide_eq_false (by omega)
  have d7 : (high : Int) - 0 = (high : Int) := by omega
  have z1 : decide ((0 : Int) < (high : Int)) = false := decide_eq_false (by omega); have z2 : ¬ 0 < high := by omega
  clear h hl h1 h2 h3 h4 h5 how htl htc hX hD hid hz
  unfold ptr at HT ⊢
  unfold u64 at HT
  go_enter Try.func44, Try.ntmps44
  go_wp2_with (first
    | (go_at_call 61; refine HT.out.mono ?_; rintro x w2 ⟨rfl, B2⟩)
    | (refine L_min2 rfl ow 4611686018427387903 X HX.out rfl rfl (by rfl) ?_))
  go_ret
  exact ⟨rfl, B2⟩
set_option maxHeartbeats 4000000 in
theorem fits_new_false_p (h : TZ w role g T Y) {id high : Nat} (hid : id < 18446744073709551616) (hl : T.l id = none) (hz : 0 < high) (h1 : high ≤ T.ow.w) (h2 : high ≤ 4611686018427387903) (h3 : high ≤ T.ti.l - T.ti.c) (h4 : T.ti.c ≤ T.ti.l) (h5 : T.ti.l < 18446744073709551616) :
    Calls Try.prog 44 #[ptr g, .int .u64 (id : Int), .int .u64 (high : Int), .bool false] w fun e w' => e = .returned (.int .u64 0) ∧ Below w.heap.size w w' := by
  obtain ⟨ow, how⟩ : ∃ n, T.ow.w = n := ⟨_, rfl⟩
  obtain ⟨tl, htl⟩ : ∃ n, T.ti.l = n := ⟨_, rfl⟩
  obtain ⟨tc, htc⟩ : ∃ n, T.ti.c = n := ⟨_, rfl⟩
  have g1 : w.cell? ⟨g, 1, none⟩ = some (.int .u64 (ow : Int)) := by rw [← how]; exact h.row.cr.at_ 1
  have g9 : w.cell? ⟨g, 9, none⟩ = some (.map (some Y.ml)) := h.row.cr.at_ 9
  have g12 : w.cell? ⟨g, 12, none⟩ = some (.pointer (some ⟨Y.ti, 0, none⟩)) := h.row.cr.at_ 12
  have l0 : (Instr.lookup 56 (.map (some Y.ml)) (.int .u64 (id : Int)) false).run Try.prog w = .ok (.pointer none) w := by have hq := h.lm.1.look id hid; simp only [hl, Option.map_none] at hq; exact hq
  have HT := Lib.hid (ttold_any h.ti.1)
  rw [how] at h1
  rw [htl] at h3 h4 h5 HT
  rw [htc] at h3 h4 HT
  obtain ⟨X, hX⟩ : ∃ X, min ow 4611686018427387903 = X := ⟨_, rfl⟩
  have HX := Lib.hid hX
  have q1 : decide ((X : Int) < (high : Int)) = false := decide_eq_false (by omega)
  have q2 : decide (X < high) = false := decide_eq_false (by omega)
  obtain ⟨D, hD⟩ : ∃ D, tl - tc = D := ⟨_, rfl⟩
  rw [hD] at h3
  have d1 : (tl : Int) - (tc : Int) = (D : Int) := by omega
  have d2 : IntKind.u64.wrap (D : Int) = (D : Int) := IntWalk.u64_in _ (by omega)
  have d3 : IntKind.u64.wrap (high : Int) = (high : Int) := IntWalk.u64_in _ (by omega)
  have d4 : decide ((D : Int) < (high : Int)) = false := decide_eq_false (by omega)
  have d5 : decide (D < high) = false := decide_eq_false (by omega)
  have d6 : decide ((high : Int) < 0) = false := decide_eq_false (by omega)
  have d7 : (high : Int) - 0 = (high : Int) := by omega
  have z1 : decide ((0 : Int) < (high : Int)) = true := decide_eq_true (by omega); have z2 : 0 < high := by omega
  clear h hl h1 h2 h3 h4 h5 how htl htc hX hD hid hz
  unfold ptr at HT ⊢
  unfold u64 at HT
  go_enter Try.func44, Try.ntmps44
  go_wp2_with (first
    | (go_at_call 61; refine HT.out.mono ?_; rintro x w2 ⟨rfl, B2⟩)
    | (refine L_min2 rfl ow 4611686018427387903 X HX.out rfl rfl (by rfl) ?_))
  go_ret
  exact ⟨rfl, B2⟩
set_option maxHeartbeats 4000000 in
theorem fits_new_true_p (h : TZ w role g T Y) {id high : Nat} (hid : id < 18446744073709551616) (hl : T.l id = none) (hz : 0 < high) (h1 : high ≤ T.ow.w) (h2 : high ≤ 4611686018427387903) (h3 : high ≤ T.ti.l - T.ti.c) (h4 : T.ti.c ≤ T.ti.l) (h5 : T.ti.l < 18446744073709551616) :
    Calls Try.prog 44 #[ptr g, .int .u64 (id : Int), .int .u64 (high : Int), .bool true] w fun e w' => e = .returned (.int .u64 0) ∧ Below w.heap.size w w' := by
  obtain ⟨ow, how⟩ : ∃ n, T.ow.w = n := ⟨_, rfl⟩
  obtain ⟨tl, htl⟩ : ∃ n, T.ti.l = n := ⟨_, rfl⟩
  obtain ⟨tc, htc⟩ : ∃ n, T.ti.c = n := ⟨_, rfl⟩
  have g1 : w.cell? ⟨g, 1, none⟩ = some (.int .u64 (ow : Int)) := by rw [← how]; exact h.row.cr.at_ 1
  have g9 : w.cell? ⟨g, 9, none⟩ = some (.map (some Y.ml)) := h.row.cr.at_ 9
  have g12 : w.cell? ⟨g, 12, none⟩ = some (.pointer (some ⟨Y.ti, 0, none⟩)) := h.row.cr.at_ 12
  have l0 : (Instr.lookup 56 (.map (some Y.ml)) (.int .u64 (id : Int)) false).run Try.prog w = .ok (.pointer none) w := by have hq := h.lm.1.look id hid; simp only [hl, Option.map_none] at hq; exact hq
  have HT := Lib.hid (ttold_any h.ti.1)
  rw [how] at h1
  rw [htl] at h3 h4 h5 HT
  rw [htc] at h3 h4 HT
  obtain ⟨X, hX⟩ : ∃ X, min ow 4611686018427387903 = X := ⟨_, rfl⟩
  have HX := Lib.hid hX
  have q1 : decide ((X : Int) < (high : Int)) = false := decide_eq_false (by omega)
  have q2 : decide (X < high) = false := decide_eq_false (by omega)
  obtain ⟨D, hD⟩ : ∃ D, tl - tc = D := ⟨_, rfl⟩
  rw [hD] at h3
  have d1 : (tl : Int) - (tc : Int) = (D : Int) := by omega
  have d2 : IntKind.u64.wrap (D : Int) = (D : Int) := IntWalk.u64_in _ (by omega)
  have d3 : IntKind.u64.wrap (high : Int) = (high : Int) := IntWalk.u64_in _ (by omega)
  have d4 : decide ((D : Int) < (high : Int)) = false := decide_eq_false (by omega)
  have d5 : decide (D < high) = false := decide_eq_false (by omega)
  have d6 : decide ((high : Int) < 0) = false := decide_eq_false (by omega)
  have d7 : (high : Int) - 0 = (high : Int) := by omega
  have z1 : decide ((0 : Int) < (high : Int)) = true := decide_eq_true (by omega); have z2 : 0 < high := by omega
  clear h hl h1 h2 h3 h4 h5 how htl htc hX hD hid hz
  unfold ptr at HT ⊢
  unfold u64 at HT
  go_enter Try.func44, Try.ntmps44
  go_wp2_with (first
    | (go_at_call 61; refine HT.out.mono ?_; rintro x w2 ⟨rfl, B2⟩)
    | (refine L_min2 rfl ow 4611686018427387903 X HX.out rfl rfl (by rfl) ?_))
  go_ret
  exact ⟨rfl, B2⟩
set_option maxHeartbeats 4000000 in
theorem fits_old_0 (h : TZ w role g T Y) {id : Nat} {s : StS} {i : InS} (hid : id < 18446744073709551616) (hs : T.l id = some s) (hi : s.inn = some i) (hk : i.qu.known = false) :
    Calls Try.prog 44 #[ptr g, .int .u64 (id : Int), .int .u64 0, .bool false] w fun e w' => e = .returned (.int .u64 0) ∧ Below w.heap.size w w' := by
  obtain ⟨ib, ti, qb, x, hp⟩ := h.inp hs hi
  obtain ⟨sb, hsb⟩ : ∃ b, Y.sb id = b := ⟨_, rfl⟩
  rw [hsb] at hp
  obtain ⟨ow, how⟩ : ∃ n, T.ow.w = n := ⟨_, rfl⟩
  have g1 : w.cell? ⟨g, 1, none⟩ = some (.int .u64 (ow : Int)) := by rw [← how]; exact h.row.cr.at_ 1
  have g9 : w.cell? ⟨g, 9, none⟩ = some (.map (some Y.ml)) := h.row.cr.at_ 9
  have l0 : (Instr.lookup 56 (.map (some Y.ml)) (.int .u64 (id : Int)) false).run Try.prog w = .ok (.pointer (some ⟨sb, 0, none⟩)) w := by have hq := h.lm.1.look id hid; simp only [hs, hsb, Option.map_some] at hq; exact hq
  have s6 := hp.s6
  have i0 : w.cell? ⟨ib, 0, none⟩ = some (.pointer (some ⟨ti, 0, none⟩)) := hp.ic.at_ 0
  have HT1 := Lib.hid (ttold_any hp.tz)
  have HP := Lib.hid hp
  have H := Lib.hid h
  obtain ⟨la, hla⟩ : ∃ n, i.qu.last = n := ⟨_, rfl⟩
  obtain ⟨hi2, hhi⟩ : ∃ n, i.qu.high = n := ⟨_, rfl⟩
  obtain ⟨sl, hsl⟩ : ∃ n, i.ti.l = n := ⟨_, rfl⟩
  have HQ := Lib.hid (⟨hla, hhi, hsl, hk⟩ : i.qu.last = la ∧ i.qu.high = hi2 ∧ i.ti.l = sl ∧ i.qu.known = false)
  rw [hsl] at HT1
  obtain ⟨X, hX⟩ : ∃ X, min sl 4611686018427387903 = X := ⟨_, rfl⟩
  have HX := Lib.hid hX
  have q1 : decide ((X : Int) < 0) = false := decide_eq_false (by omega)
  have q2 : ¬ (X : Int) < 0 := by omega
  have q3 : decide ((hi2 : Int) < 0) = false := decide_eq_false (by omega)
  have q4 : ¬ (hi2 : Int) < 0 := by omega
  clear h hs hi hid hp hsb how hla hhi hsl hk hX
  unfold ptr at HT1 ⊢
  unfold u64 at HT1
  go_enter Try.func44, Try.ntmps44
  go_upto_region 5 with (go_at_call 61; refine HT1.out.mono ?_; rintro y w2 ⟨rfl, B2⟩)
  have HP2 := Lib.hid (HP.out.bel B2)
  have H2 := Lib.hid (H.out.bel B2)
  have HB2 := Lib.hid B2
  clear g1 g9 l0 s6 i0 B2
  have s6 := HP2.out.s6
  have i1 : w2.cell? ⟨ib, 1, none⟩ = some (.pointer (some ⟨qb, 0, none⟩)) := HP2.out.ic.at_ 1
  have HH := Lib.hid (qhigh_any HP2.out.qc)
  have HE := Lib.hid (qend_any HP2.out.qc)
  rw [HQ.out.2.1] at HH
  rw [HQ.out.1, HQ.out.2.2.2] at HE
  unfold ptr at HH HE
  go_upto_region 7 with (first
    | (go_at_call 62; refine HH.out.mono ?_; rintro y w3 ⟨rfl, rfl⟩)
    | (go_at_call 63; refine HE.out.mono ?_; rintro y w3 ⟨rfl, B3⟩))
  have H3 := Lib.hid (H2.out.bel B3)
  have HB3 := Lib.hid (HB2.out.trans (B3.mono HB2.out.size))
  clear s6 i1 B3
  have g12 : w3.cell? ⟨g, 12, none⟩ = some (.pointer (some ⟨Y.ti, 0, none⟩)) := H3.out.row.cr.at_ 12
  have HT := Lib.hid (ttold_any H3.out.ti.1)
  unfold ptr u64 at HT
  go_wp2_with (first
    | (go_at_call 61; refine HT.out.mono ?_; rintro y w4 ⟨rfl, B4⟩)
    | (refine L_min2 rfl sl 4611686018427387903 X HX.out rfl rfl (by rfl) ?_))
  go_ret
  exact ⟨rfl, HB3.out.trans (B4.mono HB3.out.size)⟩
set_option maxHeartbeats 4000000 in
theorem fits_old_6 (h : TZ w role g T Y) {id high : Nat} {s : StS} {i : InS} (hid : id < 18446744073709551616) (hs : T.l id = some s) (hi : s.inn = some i) (hk : i.qu.known = true) (hh : i.qu.last < high) :
    Calls Try.prog 44 #[ptr g, .int .u64 (id : Int), .int .u64 (high : Int), .bool false] w fun e w' => e = .returned (.int .u64 6) ∧ Below w.heap.size w w' := by
  obtain ⟨ib, ti, qb, x, hp⟩ := h.inp hs hi
  obtain ⟨sb, hsb⟩ : ∃ b, Y.sb id = b := ⟨_, rfl⟩
  rw [hsb] at hp
  obtain ⟨ow, how⟩ : ∃ n, T.ow.w = n := ⟨_, rfl⟩
  have g1 : w.cell? ⟨g, 1, none⟩ = some (.int .u64 (ow : Int)) := by rw [← how]; exact h.row.cr.at_ 1
  have g9 : w.cell? ⟨g, 9, none⟩ = some (.map (some Y.ml)) := h.row.cr.at_ 9
  have l0 : (Instr.lookup 56 (.map (some Y.ml)) (.int .u64 (id : Int)) false).run Try.prog w = .ok (.pointer (some ⟨sb, 0, none⟩)) w := by have hq := h.lm.1.look id hid; simp only [hs, hsb, Option.map_some] at hq; exact hq
  have s6 := hp.s6
  have i0 : w.cell? ⟨ib, 0, none⟩ = some (.pointer (some ⟨ti, 0, none⟩)) := hp.ic.at_ 0
  have HT1 := Lib.hid (ttold_any hp.tz)
  have HP := Lib.hid hp
  have H := Lib.hid h
  obtain ⟨la, hla⟩ : ∃ n, i.qu.last = n := ⟨_, rfl⟩
  obtain ⟨hi2, hhi⟩ : ∃ n, i.qu.high = n := ⟨_, rfl⟩
  have HQ := Lib.hid (⟨hla, hhi, hk⟩ : i.qu.last = la ∧ i.qu.high = hi2 ∧ i.qu.known = true)
  rw [hla] at hh
  have q1 : decide ((la : Int) < (high : Int)) = true := decide_eq_true (by omega)
  have q2 : decide (la < high) = true := decide_eq_true (by omega)
  clear h hs hi hid hp hsb how hla hhi hk hh
  unfold ptr at HT1 ⊢
  unfold u64 at HT1
  go_enter Try.func44, Try.ntmps44
  go_upto_region 5 with (go_at_call 61; refine HT1.out.mono ?_; rintro y w2 ⟨rfl, B2⟩)
  have HP2 := Lib.hid (HP.out.bel B2)
  have H2 := Lib.hid (H.out.bel B2)
  have HB2 := Lib.hid B2
  clear g1 g9 l0 s6 i0 B2
  have s6 := HP2.out.s6
  have i1 : w2.cell? ⟨ib, 1, none⟩ = some (.pointer (some ⟨qb, 0, none⟩)) := HP2.out.ic.at_ 1
  have HH := Lib.hid (qhigh_any HP2.out.qc)
  have HE := Lib.hid (qend_any HP2.out.qc)
  rw [HQ.out.2.1] at HH
  rw [HQ.out.1, HQ.out.2.2] at HE
  unfold ptr at HH HE
  go_upto_region 7 with (first
    | (go_at_call 62; refine HH.out.mono ?_; rintro y w3 ⟨rfl, rfl⟩)
    | (go_at_call 63; refine HE.out.mono ?_; rintro y w3 ⟨rfl, B3⟩))
  have H3 := Lib.hid (H2.out.bel B3)
  have HB3 := Lib.hid (HB2.out.trans (B3.mono HB2.out.size))
  clear s6 i1 B3
  have g12 : w3.cell? ⟨g, 12, none⟩ = some (.pointer (some ⟨Y.ti, 0, none⟩)) := H3.out.row.cr.at_ 12
  have HT := Lib.hid (ttold_any H3.out.ti.1)
  unfold ptr u64 at HT
  go_wp2_with (go_at_call 61; refine HT.out.mono ?_; rintro y w4 ⟨rfl, B4⟩)
  go_ret
  exact ⟨rfl, HB3.out.trans (B4.mono HB3.out.size)⟩
end
end Go.Proofs.Yteekafpkbdbadaa.Pi
