/- pipe: bytes of a new stream of the other side, to its end. -/
import Derived.Test.YteekafpkbdbadaaQD
import Derived.Test.YteekafpkbdbadaaQE
set_option maxRecDepth 100000
set_option linter.unusedVariables false
namespace Go.Proofs.Yteekafpkbdbadaa.Pi
open Go.RowKit
/-- what a new stream's first and last bytes make -/
def inB (wi n : Nat) (p : List UInt8) : InS := { in0 wi with ti := { (in0 wi).ti with c := max 0 n }, qu := ⟨[(0, p)], 0, n, n, true⟩ }
def bytesN (T : TaS) (id n : Nat) (p : List UInt8) : TaS := Pi.setIn (countS (knowK T (od id) (wy id) (id % 4) 1) id (in0 T.ow.w) n) id (inB T.ow.w n p)
/-- a new stream of the other side may be heard of -/
structure NWS (T : TaS) (Y : TaY) (id n : Nat) : Prop where
  il : id < 4611686018427387904
  ow : (od id == T.srv) = false
  kn : (T.so (od id) (wy id)).known = id / 4
  va : ∀ i, id / 4 ≤ i → T.l (i * 4 + id % 4) = none
  yn : Y.n + 1 < 1000000
  yc : Y.ca.n + 1 < 1000000
  n0 : 0 < n
  n1 : n ≤ 1200
  nw : n ≤ T.ow.w
  nl : n ≤ T.ti.l - T.ti.c
  cl : T.ti.c ≤ T.ti.l
  ll : T.ti.l ≤ 4611686018427387903
theorem NWS.ln {T : TaS} {Y : TaY} {id n : Nat} (h : NWS T Y id n) : T.l id = none := by
  have := h.va (id / 4) (Nat.le_refl _)
  rwa [show id / 4 * 4 + id % 4 = id by omega] at this
theorem NWS.s1 {T : TaS} {Y : TaY} {id n : Nat} (h : NWS T Y id n) : (knowK T (od id) (wy id) (id % 4) 1).l id = some (stN T id) ∧ (stN T id).inn = some (in0 T.ow.w) := by
  refine ⟨?_, ?_⟩
  · rw [knowK_l, if_pos ⟨0, by omega, by rw [h.kn]; omega⟩]
  · unfold stN
    simp only [h.ow, Bool.not_false, Bool.true_or, if_true]
theorem countS_in {T : TaS} {id n : Nat} {s : StS} {i : InS} (hs : T.l id = some s) : (countS T id i n).l id = some { s with inn := some { i with ti := { i.ti with c := max i.ti.c n } } } ∧ (({ s with inn := some { i with ti := { i.ti with c := max i.ti.c n } } } : StS)).inn = some { i with ti := { i.ti with c := max i.ti.c n } } := by
  unfold countS Pi.setIn
  simp only [if_true, hs, Option.map_some]
  exact ⟨trivial, trivial⟩
section
variable {w w' : World} {role : Nat → Nat} {g : Nat} {T : TaS} {Y : TaY}
set_option maxHeartbeats 4000000 in
theorem bytes_new (h : TZ w role g T Y) {id : Nat} {da : SA} {p : List UInt8} (hd : BS w da.a da.n da.c p) (hrd : ∀ ad, da.a = some ad → role ad.block = 0) (hn : NWS T Y id da.n) :
    Calls Try.prog 25 #[ptr g, .agg (frc 8 id 0 0 0 true da SA0 SA0).toArray] w fun e w' => e = .returned (.int .u64 0) ∧ ∃ role' Y', TZ w' role' g (bytesN T id da.n p) Y' ∧ Stq (fun r => r ≠ 0) w w' role role' ∧ YK Y Y' 1 := by
  obtain ⟨gf, hg⟩ : ∃ k, w.heap.size = k := ⟨_, rfl⟩
  have hA := CR.new w 37 (frc 8 id 0 0 0 true da SA0 SA0)
  have hb := below_alloc w (.cells (frc 8 id 0 0 0 true da SA0 SA0).toArray 37)
  unfold frc SA0 at hA hb
  unfold frc SA0
  obtain ⟨n, hdn⟩ : ∃ n, da.n = n := ⟨_, rfl⟩
  rw [hdn] at hA hb hd hn ⊢
  obtain ⟨W1, hW1⟩ : ∃ x, w.alloc (.cells ([.int .u64 8, .int .u64 (id : Int), .int .u64 0, .int .u64 0, .int .u64 0, .bool true, .slice da.a n da.c, .slice none 0 0, .slice none 0 0] : List Value).toArray 37) = x := ⟨_, rfl⟩
  rw [hW1, hg] at hA
  rw [hW1] at hb
  have HA := Lib.hid hA
  have HB := Lib.hid hb
  have HN := Lib.hid hn
  have HD := Lib.hid hd
  have HRD := Lib.hid hrd
  have H := Lib.hid h
  have H1 := Lib.hid (h.bel hb)
  have HRG := Lib.hid (show role gf = 0 from h.top gf (Nat.le_of_eq hg))
  have c1 : W1.cell? ⟨gf, 1, none⟩ = some (.int .u64 (id : Int)) := HA.out.at_ 1
  have c2 : W1.cell? ⟨gf, 2, none⟩ = some (.int .u64 0) := HA.out.at_ 2
  have c5 : W1.cell? ⟨gf, 5, none⟩ = some (.bool true) := HA.out.at_ 5
  have c6 : W1.cell? ⟨gf, 6, none⟩ = some (.slice da.a n da.c) := HA.out.at_ 6
  have hnw : IntKind.u64.wrap (n : Int) = (n : Int) := IntWalk.u64_in _ (by have := hn.n1; omega)
  have HF := Lib.hid (fits_new_true_p (H1.out) (id := id) (high := n) (by have := hn.il; omega) hn.ln hn.n0 hn.nw (by have := hn.n1; omega) hn.nl hn.cl (by have := hn.ll; omega))
  unfold ptr at HF ⊢
  clear hA hb h hd hrd hn hdn
  go_enter Try.func25, Try.ntmps25
  go_upto_region 5 with (go_at_call 44; refine HF.out.mono ?_; rintro x w2 ⟨rfl, B2⟩)
  have HA2 := Lib.hid (HA.out.bel B2)
  have H2 := Lib.hid (H1.out.bel B2)
  have HB2 := Lib.hid (HB.out.trans (B2.mono HB.out.size))
  clear c1 c2 c5 c6 B2 hW1 hg
  have c1 : w2.cell? ⟨gf, 1, none⟩ = some (.int .u64 (id : Int)) := HA2.out.at_ 1
  have HKN := Lib.hid (know_any H2.out (id := id) (s := od id) (u := wy id) (d := 1) HN.out.il HN.out.ow rfl rfl (fun i hi => HN.out.va i (by rw [HN.out.kn] at hi; exact hi)) (by rw [HN.out.kn]; omega) (by rw [HN.out.kn]; have := HN.out.il; omega) HN.out.yn HN.out.yc)
  unfold ptr at HKN
  go_upto_region 6 with (go_at_call 27; refine HKN.out.mono ?_; rintro x w3 ⟨rfl, role3, Y3, z3, t3, y3⟩)
  obtain ⟨ib, e1, e2⟩ := z3.inz HN.out.s1.1 HN.out.s1.2
  have HA3 := Lib.hid (HA2.out.keep (w' := w3) (t3.blk gf HA2.out.lt (by rw [HRG.out]; exact fun hh => hh rfl)))
  have HRG3 := Lib.hid ((t3.old gf HA2.out.lt).trans HRG.out)
  have HZ3 := Lib.hid z3
  have HY3 := Lib.hid y3
  have HS3 := Lib.hid ((Stq.bel (R := fun r => r ≠ 0) HB2.out H.out.top).trans t3)
  have HE2 := Lib.hid e2
  clear c1 z3 t3 y3 e2
  obtain ⟨sb, hsb⟩ : ∃ q, Y3.sb id = q := ⟨_, rfl⟩
  rw [hsb] at e1
  have HE1 := Lib.hid e1
  have HSB := Lib.hid hsb
  have c1 : w3.cell? ⟨gf, 1, none⟩ = some (.int .u64 (id : Int)) := HA3.out.at_ 1
  have g9 : w3.cell? ⟨g, 9, none⟩ = some (.map (some Y3.ml)) := HZ3.out.row.cr.at_ 9
  have l0 : ∀ m, (Instr.lookup 56 (.map (some Y3.ml)) (.int .u64 (id : Int)) false).run Try.prog (w3.drewN m) = .ok (.pointer (some ⟨sb, 0, none⟩)) (w3.drewN m) := fun m => by have hq := (HZ3.out.bel (bel_drewN _ w3 m)).lm.1.look id (by have := HN.out.il; omega); simp only [HN.out.s1.1, HSB.out, Option.map_some] at hq; exact hq
  unfold ptr at e1
  clear hsb
  go_quiet (fail)
  clear c1 g9 l0 e1
  have bV := bel_drewN w3.heap.size w3 nq
  obtain ⟨U, hU⟩ : ∃ q, w3.drewN nq = q := ⟨_, rfl⟩
  rw [hU] at bV ⊢
  have HZU := Lib.hid (HZ3.out.bel bV)
  have HAU := Lib.hid (HA3.out.bel bV)
  have HSU := Lib.hid (HS3.out.trans (Stq.bel bV HZ3.out.top))
  have HIU := Lib.hid ((InZ.stq HE2.out (Stq.bel (R := fun _ => False) bV HZ3.out.top).kq (fun _ _ _ h => h)))
  have HE1U := Lib.hid (show U.cell? ⟨Y3.sb id, 6, none⟩ = some (ptr ib) by obtain ⟨ob, ib2, a, _⟩ := (HZ3.out.st id _ HN.out.s1.1).ex; rw [(a.cr.bel bV).at_, ← a.cr.at_, HSB.out]; exact HE1.out)
  clear bV hU
  have HCT := Lib.hid (count_gt HZU.out (id := id) (ib := ib) (high := n) HN.out.s1.1 HN.out.s1.2 HE1U.out HIU.out HN.out.n0 (by show n ≤ min T.ow.w 4611686018427387903; have := HN.out.nw; have := HN.out.n1; omega) (by rw [knowK_ti]; show T.ti.c + n - 0 ≤ T.ti.l; have := HN.out.nl; have := HN.out.cl; omega) (by rw [knowK_ti]; have := HN.out.ll; have := HN.out.cl; have := HN.out.n1; omega))
  unfold ptr at HCT
  go_upto_region 8 with (go_at_call 45; refine HCT.out.mono ?_; rintro x w4 ⟨rfl, z4, t4, e3, e4⟩)
  have hc4 := countS_in (T := knowK T (od id) (wy id) (id % 4) 1) (n := n) (i := in0 T.ow.w) HN.out.s1.1
  have HC4 := Lib.hid hc4
  obtain ⟨ti, qb, ip⟩ := e4.ip
  have HA4 := Lib.hid (HAU.out.keep (w' := w4) (t4.blk gf HAU.out.lt (by rw [HRG3.out]; exact fun hh => hh rfl)))
  have HZ4 := Lib.hid z4
  have HS4 := Lib.hid (HSU.out.trans t4)
  have HI4 := Lib.hid ip
  have HE3 := Lib.hid e3
  clear hc4 z4 t4 e3 e4 ip
  have bV : Below w4.heap.size w4 w4.drew := bel_drew _ _
  obtain ⟨V, hV⟩ : ∃ V, w4.drew = V := ⟨_, rfl⟩
  rw [hV] at bV
  have HAV := Lib.hid (HA4.out.bel bV)
  have HZV := Lib.hid (HZ4.out.bel bV)
  have HSV := Lib.hid (HS4.out.trans (Stq.bel bV HZ4.out.top))
  have HIV := Lib.hid (HI4.out.bel bV HZ4.out.top)
  have HEV := Lib.hid (show V.cell? ⟨Y3.sb id, 6, none⟩ = some (ptr ib) by obtain ⟨ob, ib2, a, _⟩ := (HZ4.out.st id _ HC4.out.1).ex; rw [(a.cr.bel bV).at_, ← a.cr.at_]; exact HE3.out)
  have HDV := Lib.hid (show BS V da.a n da.c p from RS.keepb HD.out (fun ad had hl => HSV.out.blk ad.block hl (by rw [HRD.out ad had]; exact fun hh => hh rfl)))
  clear bV
  have s1 : V.cell? ⟨ib, 1, none⟩ = some (.pointer (some ⟨qb, 0, none⟩)) := HIV.out.ic.cr.at_ 1
  have c2 : V.cell? ⟨gf, 2, none⟩ = some (.int .u64 0) := HAV.out.at_ 2
  have c5 : V.cell? ⟨gf, 5, none⟩ = some (.bool true) := HAV.out.at_ 5
  have c6 : V.cell? ⟨gf, 6, none⟩ = some (.slice da.a n da.c) := HAV.out.at_ 6
  have HPT := Lib.hid (put_one (r := rid id) (qb := qb) HIV.out.qz HZV.out.top (da := ⟨da.a, n, da.c⟩) HDV.out HN.out.n0 HN.out.n1)
  unfold ptr at HPT
  refine wp_region_held_drew (S := fun x => x.cell? ⟨ib, 1, none⟩ = some (.pointer (some ⟨qb, 0, none⟩)) ∧ x.cell? ⟨gf, 2, none⟩ = some (.int .u64 0) ∧ x.cell? ⟨gf, 5, none⟩ = some (.bool true) ∧ x.cell? ⟨gf, 6, none⟩ = some (.slice da.a n da.c)) (by kernel_rfl) (by rw [hV]; exact ⟨s1, c2, c5, c6⟩) (fun hHeld => ?_)
  rw [hV] at hHeld ⊢
  clear hV s1 c2 c5 c6
  refine wpAnyH_take (i := 0) (v := .pointer (some ⟨ib, 0, none⟩)) rfl (by kernel_rfl) (by kernel_rfl) (by kernel_rfl) (fun _ _ _ h => h) (Or.inl ⟨by rfl, fun w h => by go_simp⟩) hHeld ?_
  try simp only [Act.put, List.getElem_toArray, List.getElem_cons_zero, List.setIfInBounds_toArray, List.set_cons_zero, List.set_cons_succ]
  refine wpAnyH_take (i := 1) (v := .pointer (some ⟨ib, 0, none⟩)) rfl (by kernel_rfl) (by kernel_rfl) (by kernel_rfl) (fun _ _ _ h => h) (Or.inl ⟨by rfl, fun w h => by go_simp⟩) hHeld ?_
  try simp only [Act.put, List.getElem_toArray, List.getElem_cons_succ, List.getElem_cons_zero, List.setIfInBounds_toArray, List.set_cons_zero, List.set_cons_succ]
  refine wpAnyH_take (i := 2) (v := .pointer (some ⟨ib, 1, none⟩)) rfl (by kernel_rfl) (by kernel_rfl) (by kernel_rfl) (fun _ _ _ h => h) (Or.inl ⟨by rfl, fun w h => by go_simp⟩) hHeld ?_
  try simp only [Act.put, List.getElem_toArray, List.getElem_cons_succ, List.getElem_cons_zero, List.setIfInBounds_toArray, List.set_cons_zero, List.set_cons_succ]
  refine wpAnyH_take (i := 3) (v := .pointer (some ⟨qb, 0, none⟩)) rfl (by kernel_rfl) (by kernel_rfl) (by kernel_rfl) (fun _ _ _ h => h) (Or.inl ⟨by rfl, fun w h => by have h2 := h.1; go_simp⟩) hHeld ?_
  try simp only [Act.put, List.getElem_toArray, List.getElem_cons_succ, List.getElem_cons_zero, List.setIfInBounds_toArray, List.set_cons_zero, List.set_cons_succ]
  refine wpAnyH_take (i := 4) (v := .pointer (some ⟨gf, 2, none⟩)) rfl (by kernel_rfl) (by kernel_rfl) (by kernel_rfl) (fun _ _ _ h => h) (Or.inl ⟨by rfl, fun w h => by go_simp⟩) hHeld ?_
  try simp only [Act.put, List.getElem_toArray, List.getElem_cons_succ, List.getElem_cons_zero, List.setIfInBounds_toArray, List.set_cons_zero, List.set_cons_succ]
  refine wpAnyH_take (i := 5) (v := .int .u64 0) rfl (by kernel_rfl) (by kernel_rfl) (by kernel_rfl) (fun _ _ _ h => h) (Or.inl ⟨by rfl, fun w h => by have h2 := h.2.1; go_simp⟩) hHeld ?_
  try simp only [Act.put, List.getElem_toArray, List.getElem_cons_succ, List.getElem_cons_zero, List.setIfInBounds_toArray, List.set_cons_zero, List.set_cons_succ]
  refine wpAnyH_take (i := 6) (v := .pointer (some ⟨gf, 6, none⟩)) rfl (by kernel_rfl) (by kernel_rfl) (by kernel_rfl) (fun _ _ _ h => h) (Or.inl ⟨by rfl, fun w h => by go_simp⟩) hHeld ?_
  try simp only [Act.put, List.getElem_toArray, List.getElem_cons_succ, List.getElem_cons_zero, List.setIfInBounds_toArray, List.set_cons_zero, List.set_cons_succ]
  refine wpAnyH_take (i := 7) (v := .slice da.a n da.c) rfl (by kernel_rfl) (by kernel_rfl) (by kernel_rfl) (fun _ _ _ h => h) (Or.inl ⟨by rfl, fun w h => by have h2 := h.2.2.2; go_simp⟩) hHeld ?_
  try simp only [Act.put, List.getElem_toArray, List.getElem_cons_succ, List.getElem_cons_zero, List.setIfInBounds_toArray, List.set_cons_zero, List.set_cons_succ]
  refine wpAnyH_take (i := 8) (v := .pointer (some ⟨gf, 5, none⟩)) rfl (by kernel_rfl) (by kernel_rfl) (by kernel_rfl) (fun _ _ _ h => h) (Or.inl ⟨by rfl, fun w h => by go_simp⟩) hHeld ?_
  try simp only [Act.put, List.getElem_toArray, List.getElem_cons_succ, List.getElem_cons_zero, List.setIfInBounds_toArray, List.set_cons_zero, List.set_cons_succ]
  refine wpAnyH_take (i := 9) (v := .bool true) rfl (by kernel_rfl) (by kernel_rfl) (by kernel_rfl) (fun _ _ _ h => h) (Or.inl ⟨by rfl, fun w h => by have h2 := h.2.2.1; go_simp⟩) hHeld ?_
  try simp only [Act.put, List.getElem_toArray, List.getElem_cons_succ, List.getElem_cons_zero, List.setIfInBounds_toArray, List.set_cons_zero, List.set_cons_succ]
  clear hHeld
  refine wpAnyH_ready (rs := [10]) (by kernel_rfl) (by simp) (AllReadyH.cons rfl (fun K hK => ?_) AllReadyH.nil)
  go_simp
  go_at_call 46
  refine HPT.out.mono ?_
  rintro x w5 ⟨rfl, role5, q5, t5⟩
  have ic5 := HIV.out.ic.stq t5.kq (by omega)
  have tz5 := cr_stq HIV.out.tz HIV.out.tr t5.kq (by omega)
  have gf0 : role3 gf = 0 := HRG3.out
  have a5 := HAV.out.keep (w' := w5) (t5.blk gf HAV.out.lt (by rw [gf0]; unfold rid; omega))
  have HZ5 := Lib.hid (HZV.out.setIn HC4.out.1 HC4.out.2 (inB T.ow.w n p) (t5.mono (fun r hr => by omega)) (fun ib' f1 f2 => by
    rw [HEV.out] at f1
    unfold ptr at f1
    simp at f1
    subst f1
    exact (⟨ic5, tz5.1, tz5.2, q5⟩ : IP w5 role5 (rid id) ib ti qb (inB T.ow.w n p)).inz))
  refine hK.out _ _ ⟨ic5.cr.at_ 1, a5.at_ 2, a5.at_ 5, a5.at_ 6⟩ (fun hHeld => ?_)
  clear hK K hHeld ic5 tz5 gf0 a5 q5 t5
  try simp only [Act.put, List.getElem_toArray, List.getElem_cons_succ, List.getElem_cons_zero, List.setIfInBounds_toArray, List.set_cons_zero, List.set_cons_succ]
  refine wpAnyH_done (by kernel_rfl) ?_ _
  try simp only [Act.put, List.getElem_toArray, List.getElem_cons_succ, List.getElem_cons_zero]
  go_wp2_with fail
  go_ret
  exact ⟨rfl, role5, Y3, HZ5.out.1, HSV.out.trans HZ5.out.2, HY3.out⟩
end
end Go.Proofs.Yteekafpkbdbadaa.Pi
