/- pipe: over, for a stream of the other side that is read to its end and has no part to send. -/
import Derived.Test.YteekafpkbdbadaaRB
set_option maxRecDepth 100000
set_option linter.unusedVariables false
namespace Go.Proofs.Yteekafpkbdbadaa.Pi
open Go.RowKit
def setPast (T : TaS) (id : Nat) : TaS := { T with l := fun j => if j = id then (T.l id).map (fun s => { s with past := true }) else T.l j }
section
variable {w w' : World} {role : Nat → Nat} {g : Nat} {T : TaS} {Y : TaY}
theorem TZ.setPast (h : TZ w role g T Y) {id : Nat} {s : StS} (hs : T.l id = some s) (hg : w.grownBy w' (some (Y.sb id))) (hc : ∀ l, CR w (Y.sb id) 79 l → CR w' (Y.sb id) 79 (l.set 4 (.bool true))) : TZ w' role g (Pi.setPast T id) Y ∧ Stq (fun r => r = rid id) w w' role role := by
  obtain ⟨ob0, ib0, a0, _⟩ := (h.st id s hs).ex
  have st : Stq (fun r => r = rid id) w w' role role := Stq.grown hg a0.rb h.top
  have k := st.kq
  refine ⟨⟨h.row.stq k (by unfold rid; omega), ?_, ⟨⟨h.sm.1.choose, (h.sm.1.choose_spec.stq h.sm.2 k (by unfold rid; omega)).1⟩, (h.sm.1.choose_spec.stq h.sm.2 k (by unfold rid; omega)).2⟩, fun x y => (h.so x y).stq k (by have := rso_bd x y; unfold rid; omega), cr_stq h.pu.1 h.pu.2 k (by unfold rid; omega), cr_stq h.ti.1 h.ti.2 k (by unfold rid; omega), h.ca.stq k (by unfold rid; omega), fun j x hx => ?_, ?_, st.top⟩, st⟩
  · have := h.lm.1.stq h.lm.2 k (by unfold rid; omega)
    refine ⟨this.1.cast (fun a => ?_), this.2⟩
    unfold Pi.setPast
    simp only []
    by_cases ha : a = id
    · subst ha; rw [if_pos rfl, hs]; rfl
    · rw [if_neg ha]
  · by_cases hj : j = id
    · subst hj
      unfold Pi.setPast at hx
      simp only [if_true, hs, Option.map_some] at hx
      injection hx with hx
      subst hx
      obtain ⟨ob, ib, a, h1, h2, h3, h4⟩ := (h.st j s hs).ex
      exact ⟨ob, ib, ⟨hc _ a.cr, a.rb⟩, h1, h2, fun o b' e1 e2 => (h3 o b' e1 e2).stq k (fun x _ hx => by omega), fun i2 b' e1 e2 => (h4 i2 b' e1 e2).stq k (fun x _ hx => by omega)⟩
    · unfold Pi.setPast at hx
      simp only [hj, if_false] at hx
      exact (h.st j x hx).stq k (fun y hy => by unfold rid; omega)
  · refine ⟨h.ids.1, fun a => ?_, h.ids.2.2⟩
    show a ∈ T.ids ↔ _
    rw [h.ids.2.1 a]
    unfold Pi.setPast
    simp only []
    by_cases ha : a = id
    · subst ha; rw [if_pos rfl, hs]; simp
    · rw [if_neg ha]
set_option maxHeartbeats 4000000 in
theorem over_end (h : TZ w role g T Y) {id : Nat} {s : StS} {i : InS} (hid : id < 18446744073709551616) (hs : T.l id = some s) (hi : s.inn = some i) (ho : s.out = none) (hp : s.past = false) (hd : i.done = true) (hw : (od id == T.srv) = false) (hmb : (T.so (od id) (wy id)).may < 4611686018427387904) :
    Calls Try.prog 35 #[ptr g, .int .u64 (id : Int)] w fun e w' => e = .returned (.tuple #[]) ∧ TZ w' role g (Pi.setSo (Pi.setPast T id) (od id) (wy id) { T.so (od id) (wy id) with may := min ((T.so (od id) (wy id)).may + 1) 1152921504606846976, news := 1 }) Y ∧ Stq (fun r => r ≠ 0) w w' role role := by
  obtain ⟨sb, hsb⟩ : ∃ b, Y.sb id = b := ⟨_, rfl⟩
  obtain ⟨ob, ib, a, h1, h2, h3, h4⟩ := (h.st id s hs).ex
  have hob : ob = none := h1.1 ho
  subst hob
  cases ib with
  | none => rw [hi] at h2; exact absurd (h2.2 rfl) (by simp)
  | some ib =>
    obtain ⟨ti, qb, hip⟩ := (h4 i ib hi rfl).ip
    rw [hsb] at a
    have H := Lib.hid h
    have HA := Lib.hid a
    have HIP := Lib.hid hip
    have HSB := Lib.hid hsb
    have HS := Lib.hid hs
    obtain ⟨sv, hsv⟩ : ∃ b, T.srv = b := ⟨_, rfl⟩
    obtain ⟨o1, ho1⟩ : ∃ b, od id = b := ⟨_, rfl⟩
    obtain ⟨o2, ho2⟩ : ∃ b, wy id = b := ⟨_, rfl⟩
    rw [ho1, hsv] at hw
    have hof := fun (x : World) => of_any x id hid
    rw [ho1, ho2] at hof hmb ⊢
    have HMB := Lib.hid hmb
    clear hmb
    have HOF := Lib.hid hof
    have g9 : w.cell? ⟨g, 9, none⟩ = some (.map (some Y.ml)) := h.row.cr.at_ 9
    have l0 : (Instr.lookup 56 (.map (some Y.ml)) (.int .u64 (id : Int)) false).run Try.prog w = .ok (.pointer (some ⟨sb, 0, none⟩)) w := by have hq := h.lm.1.look id hid; simp only [hs, hsb, Option.map_some] at hq; exact hq
    have HSV := Lib.hid hsv
    have HPA := Lib.hid hp
    have HDO := Lib.hid hd
    unfold ptr
    clear h a hip hsb hs hi ho hp hd hsv ho1 ho2 hof h1 h2 h3 h4 hid
    go_enter Try.func35, Try.ntmps35
    go_wp2_with fail
    clear g9 l0
    have bV : Below w.heap.size w w.drew := bel_drew _ _
    obtain ⟨V, hV⟩ : ∃ V, w.drew = V := ⟨_, rfl⟩
    rw [hV] at bV
    have HV := Lib.hid (H.out.bel bV)
    have HAV := Lib.hid (HA.out.cr.bel bV)
    have HIV := Lib.hid (HIP.out.bel bV H.out.top)
    have HBV := Lib.hid bV
    have HSS := Lib.hid (fun (x : World) (b : Below w.heap.size w x) => (⟨by have hq := (HA.out.cr.bel b).at_ 4; rw [HPA.out] at hq; exact hq, (HA.out.cr.bel b).at_ 6, (HA.out.cr.bel b).at_ 5, by have hq := (H.out.row.cr.bel b).at_ 0; rw [HSV.out] at hq; exact hq⟩ : x.cell? ⟨sb, 4, none⟩ = some (.bool false) ∧ x.cell? ⟨sb, 6, none⟩ = some (.pointer (some ⟨ib, 0, none⟩)) ∧ x.cell? ⟨sb, 5, none⟩ = some (.pointer none) ∧ x.cell? ⟨g, 0, none⟩ = some (.bool sv)))
    clear bV
    refine wp_region_held_drew (S := fun x => x.cell? ⟨sb, 4, none⟩ = some (.bool false) ∧ x.cell? ⟨sb, 6, none⟩ = some (.pointer (some ⟨ib, 0, none⟩)) ∧ x.cell? ⟨sb, 5, none⟩ = some (.pointer none) ∧ x.cell? ⟨g, 0, none⟩ = some (.bool sv)) (by kernel_rfl) (by rw [hV]; exact HSS.out _ HBV.out) (fun hHeld => ?_)
    rw [hV] at hHeld ⊢
    clear hV
    have HE9 := Lib.hid (iends_done HIV.out HDO.out)
    unfold ptr at HE9
    refine wpAnyH_take (i := 0) (v := .pointer (some ⟨sb, 0, none⟩)) rfl (by kernel_rfl) (by kernel_rfl) (by kernel_rfl) (fun _ _ _ h => h) (Or.inl ⟨by rfl, fun w h => by go_simp⟩) hHeld ?_
    try simp only [Act.put, List.getElem_toArray, List.getElem_cons_zero, List.setIfInBounds_toArray, List.set_cons_zero, List.set_cons_succ]
    refine wpAnyH_take (i := 1) (v := .pointer (some ⟨sb, 0, none⟩)) rfl (by kernel_rfl) (by kernel_rfl) (by kernel_rfl) (fun _ _ _ h => h) (Or.inl ⟨by rfl, fun w h => by go_simp⟩) hHeld ?_
    try simp only [Act.put, List.getElem_toArray, List.getElem_cons_succ, List.getElem_cons_zero, List.setIfInBounds_toArray, List.set_cons_zero, List.set_cons_succ]
    refine wpAnyH_take (i := 2) (v := .pointer (some ⟨sb, 4, none⟩)) rfl (by kernel_rfl) (by kernel_rfl) (by kernel_rfl) (fun _ _ _ h => h) (Or.inl ⟨by rfl, fun w h => by go_simp⟩) hHeld ?_
    try simp only [Act.put, List.getElem_toArray, List.getElem_cons_succ, List.getElem_cons_zero, List.setIfInBounds_toArray, List.set_cons_zero, List.set_cons_succ]
    refine wpAnyH_take (i := 3) (v := .bool false) rfl (by kernel_rfl) (by kernel_rfl) (by kernel_rfl) (fun _ _ _ h => h) (Or.inl ⟨by rfl, fun w h => by have h2 := h.1; go_simp⟩) hHeld ?_
    try simp only [Act.put, List.getElem_toArray, List.getElem_cons_succ, List.getElem_cons_zero, List.setIfInBounds_toArray, List.set_cons_zero, List.set_cons_succ]
    refine wpAnyH_take (i := 4) (v := .bool false) rfl (by kernel_rfl) (by kernel_rfl) (by kernel_rfl) (fun _ _ _ h => h) (Or.inl ⟨by rfl, fun w h => by go_simp⟩) hHeld ?_
    try simp only [Act.put, List.getElem_toArray, List.getElem_cons_succ, List.getElem_cons_zero, List.setIfInBounds_toArray, List.set_cons_zero, List.set_cons_succ]
    refine wpAnyH_take (i := 5) (v := .pointer (some ⟨sb, 0, none⟩)) rfl (by kernel_rfl) (by kernel_rfl) (by kernel_rfl) (fun _ _ _ h => h) (Or.inl ⟨by rfl, fun w h => by go_simp⟩) hHeld ?_
    try simp only [Act.put, List.getElem_toArray, List.getElem_cons_succ, List.getElem_cons_zero, List.setIfInBounds_toArray, List.set_cons_zero, List.set_cons_succ]
    refine wpAnyH_take (i := 6) (v := .pointer (some ⟨sb, 0, none⟩)) rfl (by kernel_rfl) (by kernel_rfl) (by kernel_rfl) (fun _ _ _ h => h) (Or.inl ⟨by rfl, fun w h => by go_simp⟩) hHeld ?_
    try simp only [Act.put, List.getElem_toArray, List.getElem_cons_succ, List.getElem_cons_zero, List.setIfInBounds_toArray, List.set_cons_zero, List.set_cons_succ]
    refine wpAnyH_take (i := 7) (v := .pointer (some ⟨sb, 6, none⟩)) rfl (by kernel_rfl) (by kernel_rfl) (by kernel_rfl) (fun _ _ _ h => h) (Or.inl ⟨by rfl, fun w h => by go_simp⟩) hHeld ?_
    try simp only [Act.put, List.getElem_toArray, List.getElem_cons_succ, List.getElem_cons_zero, List.setIfInBounds_toArray, List.set_cons_zero, List.set_cons_succ]
    refine wpAnyH_take (i := 8) (v := .pointer (some ⟨ib, 0, none⟩)) rfl (by kernel_rfl) (by kernel_rfl) (by kernel_rfl) (fun _ _ _ h => h) (Or.inl ⟨by rfl, fun w h => by have h2 := h.2.1; go_simp⟩) hHeld ?_
    try simp only [Act.put, List.getElem_toArray, List.getElem_cons_succ, List.getElem_cons_zero, List.setIfInBounds_toArray, List.set_cons_zero, List.set_cons_succ]
    refine wpAnyH_ready (rs := [9]) (by kernel_rfl) (by simp) (AllReadyH.cons rfl (fun K hK => ?_) AllReadyH.nil)
    go_simp
    go_at_call 32
    refine HE9.out.mono ?_
    rintro x w2 ⟨rfl, B2⟩
    have HB2 := Lib.hid (HBV.out.trans (B2.mono HBV.out.size))
    refine hK.out _ _ (HSS.out _ HB2.out) (fun hHeld => ?_)
    clear hK K B2
    try simp only [Act.put, List.getElem_toArray, List.getElem_cons_succ, List.getElem_cons_zero, List.setIfInBounds_toArray, List.set_cons_zero, List.set_cons_succ]
    refine wpAnyH_take (i := 10) (v := .bool false) rfl (by kernel_rfl) (by kernel_rfl) (by kernel_rfl) (fun _ _ _ h => h) (Or.inl ⟨by rfl, fun w h => by go_simp⟩) hHeld ?_
    try simp only [Act.put, List.getElem_toArray, List.getElem_cons_succ, List.getElem_cons_zero, List.setIfInBounds_toArray, List.set_cons_zero, List.set_cons_succ]
    refine wpAnyH_take (i := 11) (v := .bool false) rfl (by kernel_rfl) (by kernel_rfl) (by kernel_rfl) (fun _ _ _ h => h) (Or.inl ⟨by rfl, fun w h => by go_simp⟩) hHeld ?_
    try simp only [Act.put, List.getElem_toArray, List.getElem_cons_succ, List.getElem_cons_zero, List.setIfInBounds_toArray, List.set_cons_zero, List.set_cons_succ]
    refine wpAnyH_take (i := 12) (v := .bool false) rfl (by kernel_rfl) (by kernel_rfl) (by kernel_rfl) (fun _ _ _ h => h) (Or.inl ⟨by rfl, fun w h => by go_simp⟩) hHeld ?_
    try simp only [Act.put, List.getElem_toArray, List.getElem_cons_succ, List.getElem_cons_zero, List.setIfInBounds_toArray, List.set_cons_zero, List.set_cons_succ]
    refine wpAnyH_take (i := 13) (v := .pointer (some ⟨sb, 0, none⟩)) rfl (by kernel_rfl) (by kernel_rfl) (by kernel_rfl) (fun _ _ _ h => h) (Or.inl ⟨by rfl, fun w h => by go_simp⟩) hHeld ?_
    try simp only [Act.put, List.getElem_toArray, List.getElem_cons_succ, List.getElem_cons_zero, List.setIfInBounds_toArray, List.set_cons_zero, List.set_cons_succ]
    refine wpAnyH_take (i := 14) (v := .pointer (some ⟨sb, 0, none⟩)) rfl (by kernel_rfl) (by kernel_rfl) (by kernel_rfl) (fun _ _ _ h => h) (Or.inl ⟨by rfl, fun w h => by go_simp⟩) hHeld ?_
    try simp only [Act.put, List.getElem_toArray, List.getElem_cons_succ, List.getElem_cons_zero, List.setIfInBounds_toArray, List.set_cons_zero, List.set_cons_succ]
    refine wpAnyH_take (i := 15) (v := .pointer (some ⟨sb, 5, none⟩)) rfl (by kernel_rfl) (by kernel_rfl) (by kernel_rfl) (fun _ _ _ h => h) (Or.inl ⟨by rfl, fun w h => by go_simp⟩) hHeld ?_
    try simp only [Act.put, List.getElem_toArray, List.getElem_cons_succ, List.getElem_cons_zero, List.setIfInBounds_toArray, List.set_cons_zero, List.set_cons_succ]
    refine wpAnyH_take (i := 16) (v := .pointer none) rfl (by kernel_rfl) (by kernel_rfl) (by kernel_rfl) (fun _ _ _ h => h) (Or.inl ⟨by rfl, fun w h => by have h2 := h.2.2.1; go_simp⟩) hHeld ?_
    try simp only [Act.put, List.getElem_toArray, List.getElem_cons_succ, List.getElem_cons_zero, List.setIfInBounds_toArray, List.set_cons_zero, List.set_cons_succ]
    refine wpAnyH_ready (rs := [17]) (by kernel_rfl) (by simp) (AllReadyH.cons rfl (fun K hK => ?_) AllReadyH.nil)
    go_simp
    go_at_call 33
    refine (oends_nil w2).mono ?_
    rintro x w3 ⟨rfl, rfl⟩
    refine hK.out _ _ (HSS.out _ HB2.out) (fun hHeld => ?_)
    clear hK K
    try simp only [Act.put, List.getElem_toArray, List.getElem_cons_succ, List.getElem_cons_zero, List.setIfInBounds_toArray, List.set_cons_zero, List.set_cons_succ]
    refine wpAnyH_take (i := 18) (v := .bool false) rfl (by kernel_rfl) (by kernel_rfl) (by kernel_rfl) (fun _ _ _ h => h) (Or.inl ⟨by rfl, fun w h => by go_simp⟩) hHeld ?_
    try simp only [Act.put, List.getElem_toArray, List.getElem_cons_succ, List.getElem_cons_zero, List.setIfInBounds_toArray, List.set_cons_zero, List.set_cons_succ]
    refine wpAnyH_take (i := 19) (v := .bool false) rfl (by kernel_rfl) (by kernel_rfl) (by kernel_rfl) (fun _ _ _ h => h) (Or.inl ⟨by rfl, fun w h => by go_simp⟩) hHeld ?_
    try simp only [Act.put, List.getElem_toArray, List.getElem_cons_succ, List.getElem_cons_zero, List.setIfInBounds_toArray, List.set_cons_zero, List.set_cons_succ]
    refine wpAnyH_take (i := 20) (v := .bool false) rfl (by kernel_rfl) (by kernel_rfl) (by kernel_rfl) (fun _ _ _ h => h) (Or.inl ⟨by rfl, fun w h => by go_simp⟩) hHeld ?_
    try simp only [Act.put, List.getElem_toArray, List.getElem_cons_succ, List.getElem_cons_zero, List.setIfInBounds_toArray, List.set_cons_zero, List.set_cons_succ]
    refine wpAnyH_take (i := 21) (v := .int .u64 (id : Int)) rfl (by kernel_rfl) (by kernel_rfl) (by kernel_rfl) (fun _ _ _ h => h) (Or.inl ⟨by rfl, fun w h => by go_simp⟩) hHeld ?_
    try simp only [Act.put, List.getElem_toArray, List.getElem_cons_succ, List.getElem_cons_zero, List.setIfInBounds_toArray, List.set_cons_zero, List.set_cons_succ]
    refine wpAnyH_take (i := 24) (v := .pointer (some ⟨g, 0, none⟩)) rfl (by kernel_rfl) (by kernel_rfl) (by kernel_rfl) (fun _ _ _ h => h) (Or.inl ⟨by rfl, fun w h => by go_simp⟩) hHeld ?_
    try simp only [Act.put, List.getElem_toArray, List.getElem_cons_succ, List.getElem_cons_zero, List.setIfInBounds_toArray, List.set_cons_zero, List.set_cons_succ]
    refine wpAnyH_take (i := 25) (v := .pointer (some ⟨g, 0, none⟩)) rfl (by kernel_rfl) (by kernel_rfl) (by kernel_rfl) (fun _ _ _ h => h) (Or.inl ⟨by rfl, fun w h => by go_simp⟩) hHeld ?_
    try simp only [Act.put, List.getElem_toArray, List.getElem_cons_succ, List.getElem_cons_zero, List.setIfInBounds_toArray, List.set_cons_zero, List.set_cons_succ]
    refine wpAnyH_take (i := 26) (v := .pointer (some ⟨g, 0, none⟩)) rfl (by kernel_rfl) (by kernel_rfl) (by kernel_rfl) (fun _ _ _ h => h) (Or.inl ⟨by rfl, fun w h => by go_simp⟩) hHeld ?_
    try simp only [Act.put, List.getElem_toArray, List.getElem_cons_succ, List.getElem_cons_zero, List.setIfInBounds_toArray, List.set_cons_zero, List.set_cons_succ]
    refine wpAnyH_take (i := 27) (v := .bool sv) rfl (by kernel_rfl) (by kernel_rfl) (by kernel_rfl) (fun _ _ _ h => h) (Or.inl ⟨by rfl, fun w h => by have h2 := h.2.2.2; go_simp⟩) hHeld ?_
    try simp only [Act.put, List.getElem_toArray, List.getElem_cons_succ, List.getElem_cons_zero, List.setIfInBounds_toArray, List.set_cons_zero, List.set_cons_succ]
    refine wpAnyH_ready (rs := [22]) (by kernel_rfl) (by simp) (AllReadyH.cons rfl (fun K hK => ?_) AllReadyH.nil)
    go_simp
    go_at_call 40
    refine (HOF.out w2).mono ?_
    rintro x w4 ⟨rfl, B4⟩
    have HB4 := Lib.hid (HB2.out.trans (B4.mono HB2.out.size))
    refine hK.out _ _ (HSS.out _ HB4.out) (fun hHeld => ?_)
    clear hK K B4
    try simp only [Act.put, List.getElem_toArray, List.getElem_cons_succ, List.getElem_cons_zero, List.setIfInBounds_toArray, List.set_cons_zero, List.set_cons_succ]
    have HFL := Lib.hid (fun (W : World) => (by cases o1 <;> cases o2 <;> rfl : (Instr.field 66 (.agg #[.bool o1, .bool o2]) 0).run Try.prog W = .ok (.bool o1) W))
    refine wpAnyH_take (i := 23) (v := .bool o1) rfl (by kernel_rfl) (by kernel_rfl) (by kernel_rfl) (fun _ _ _ h => h) (Or.inl ⟨by rfl, fun w h => by have h2 := HFL.out w; go_simp⟩) hHeld ?_
    try simp only [Act.put, List.getElem_toArray, List.getElem_cons_succ, List.getElem_cons_zero, List.setIfInBounds_toArray, List.set_cons_zero, List.set_cons_succ]
    refine wpAnyH_take (i := 28) (v := .bool false) rfl (by kernel_rfl) (by kernel_rfl) (by kernel_rfl) (fun _ _ _ h => h) (Or.inl ⟨by rfl, fun w h => by go_simp⟩) hHeld ?_
    try simp only [Act.put, List.getElem_toArray, List.getElem_cons_succ, List.getElem_cons_zero, List.setIfInBounds_toArray, List.set_cons_zero, List.set_cons_succ]
    refine wpAnyH_take (i := 29) (v := .bool false) rfl (by kernel_rfl) (by kernel_rfl) (by kernel_rfl) (fun _ _ _ h => h) (Or.inl ⟨by rfl, fun w h => by go_simp⟩) hHeld ?_
    try simp only [Act.put, List.getElem_toArray, List.getElem_cons_succ, List.getElem_cons_zero, List.setIfInBounds_toArray, List.set_cons_zero, List.set_cons_succ]
    clear hHeld
    refine wpAnyH_done (by kernel_rfl) ?_ _
    try simp only [Act.put, List.getElem_toArray, List.getElem_cons_succ, List.getElem_cons_zero]
    have HZ4 := Lib.hid (H.out.bel HB4.out)
    have HA4 := Lib.hid (HA.out.cr.bel HB4.out)
    go_upto_region 3 with (refine L_store1 rfl 4 _ _ rfl (i := 4) (v := .bool true) HA4.out rfl rfl (by kernel_rfl) (Nat.le_of_ble_eq_true rfl) rfl ?_; intro w5 hc5 hg5)
    have hs5 := HZ4.out.setPast HS.out (w' := w5) (by rw [HSB.out]; exact hg5) (fun l hl => by rw [HSB.out] at hl ⊢; have e := (CR.type hl HA4.out).2; rw [e]; exact hc5)
    have HZ5 := Lib.hid hs5.1
    have HS5 := Lib.hid ((Stq.bel (R := fun r => r ≠ 0) HB4.out H.out.top).trans (hs5.2.mono (fun r hr => by unfold rid at hr; omega)))
    clear hs5 hc5 hg5
    obtain ⟨so, hso⟩ : ∃ b, Y.so o1 o2 = b := ⟨_, rfl⟩
    have HSOE := Lib.hid hso
    obtain ⟨may, hmay⟩ : ∃ b, (T.so o1 o2).may = b := ⟨_, rfl⟩
    have HMAY := Lib.hid hmay
    obtain ⟨M1, hM1⟩ : ∃ b, may + 1 = b := ⟨_, rfl⟩
    obtain ⟨X, hX⟩ : ∃ b, min M1 1152921504606846976 = b := ⟨_, rfl⟩
    have HX := Lib.hid hX
    have HM1 := Lib.hid hM1
    clear hso hmay hM1 hX
    have bV : Below w5.heap.size w5 w5.drew := bel_drew _ _
    obtain ⟨U, hU⟩ : ∃ V, w5.drew = V := ⟨_, rfl⟩
    rw [hU] at bV
    have HBU := Lib.hid bV
    clear bV
    have HSF := Lib.hid (fun (x : World) (b : Below w5.heap.size w5 x) => (⟨(HZ5.out.bel b).row.cr.at_ 10, by have hq := (HZ5.out.bel b).sm.1.choose_spec.look o1 o2; rw [HSOE.out] at hq; exact hq⟩ : x.cell? ⟨g, 10, none⟩ = some (.map (some Y.ms)) ∧ (Instr.lookup 57 (.map (some Y.ms)) (.agg #[.bool o1, .bool o2]) false).run Try.prog x = .ok (.pointer (some ⟨so, 0, none⟩)) x))
    refine wp_region_held_drew (S := fun x => x.cell? ⟨g, 10, none⟩ = some (.map (some Y.ms)) ∧ (Instr.lookup 57 (.map (some Y.ms)) (.agg #[.bool o1, .bool o2]) false).run Try.prog x = .ok (.pointer (some ⟨so, 0, none⟩)) x) (by kernel_rfl) (by rw [hU]; exact HSF.out _ HBU.out) (fun hHeld => ?_)
    rw [hU] at hHeld ⊢
    clear hU
    refine wpAnyH_take (i := 0) (v := .pointer (some ⟨g, 0, none⟩)) rfl (by kernel_rfl) (by kernel_rfl) (by kernel_rfl) (fun _ _ _ h => h) (Or.inl ⟨by rfl, fun w h => by go_simp⟩) hHeld ?_
    try simp only [Act.put, List.getElem_toArray, List.getElem_cons_zero, List.setIfInBounds_toArray, List.set_cons_zero, List.set_cons_succ]
    refine wpAnyH_take (i := 1) (v := .pointer (some ⟨g, 0, none⟩)) rfl (by kernel_rfl) (by kernel_rfl) (by kernel_rfl) (fun _ _ _ h => h) (Or.inl ⟨by rfl, fun w h => by go_simp⟩) hHeld ?_
    try simp only [Act.put, List.getElem_toArray, List.getElem_cons_succ, List.getElem_cons_zero, List.setIfInBounds_toArray, List.set_cons_zero, List.set_cons_succ]
    refine wpAnyH_take (i := 2) (v := .pointer (some ⟨g, 10, none⟩)) rfl (by kernel_rfl) (by kernel_rfl) (by kernel_rfl) (fun _ _ _ h => h) (Or.inl ⟨by rfl, fun w h => by go_simp⟩) hHeld ?_
    try simp only [Act.put, List.getElem_toArray, List.getElem_cons_succ, List.getElem_cons_zero, List.setIfInBounds_toArray, List.set_cons_zero, List.set_cons_succ]
    refine wpAnyH_take (i := 3) (v := .map (some Y.ms)) rfl (by kernel_rfl) (by kernel_rfl) (by kernel_rfl) (fun _ _ _ h => h) (Or.inl ⟨by rfl, fun w h => by have h2 := h.1; go_simp⟩) hHeld ?_
    try simp only [Act.put, List.getElem_toArray, List.getElem_cons_succ, List.getElem_cons_zero, List.setIfInBounds_toArray, List.set_cons_zero, List.set_cons_succ]
    refine wpAnyH_take (i := 4) (v := .int .u64 (id : Int)) rfl (by kernel_rfl) (by kernel_rfl) (by kernel_rfl) (fun _ _ _ h => h) (Or.inl ⟨by rfl, fun w h => by go_simp⟩) hHeld ?_
    try simp only [Act.put, List.getElem_toArray, List.getElem_cons_succ, List.getElem_cons_zero, List.setIfInBounds_toArray, List.set_cons_zero, List.set_cons_succ]
    refine wpAnyH_ready (rs := [5]) (by kernel_rfl) (by simp) (AllReadyH.cons rfl (fun K hK => ?_) AllReadyH.nil)
    go_simp
    go_at_call 40
    refine (HOF.out U).mono ?_
    rintro x w6 ⟨rfl, B6⟩
    have HB6 := Lib.hid (HBU.out.trans (B6.mono HBU.out.size))
    refine hK.out _ _ (HSF.out _ HB6.out) (fun hHeld => ?_)
    clear hK K B6
    try simp only [Act.put, List.getElem_toArray, List.getElem_cons_succ, List.getElem_cons_zero, List.setIfInBounds_toArray, List.set_cons_zero, List.set_cons_succ]
    refine wpAnyH_take (i := 6) (v := .pointer (some ⟨so, 0, none⟩)) rfl (by kernel_rfl) (by kernel_rfl) (by kernel_rfl) (fun _ _ _ h => h) (Or.inl ⟨by rfl, fun w h => by have h2 := h.2; go_simp⟩) hHeld ?_
    try simp only [Act.put, List.getElem_toArray, List.getElem_cons_succ, List.getElem_cons_zero, List.setIfInBounds_toArray, List.set_cons_zero, List.set_cons_succ]
    refine wpAnyH_take (i := 7) (v := .pointer (some ⟨so, 0, none⟩)) rfl (by kernel_rfl) (by kernel_rfl) (by kernel_rfl) (fun _ _ _ h => h) (Or.inl ⟨by rfl, fun w h => by go_simp⟩) hHeld ?_
    try simp only [Act.put, List.getElem_toArray, List.getElem_cons_succ, List.getElem_cons_zero, List.setIfInBounds_toArray, List.set_cons_zero, List.set_cons_succ]
    clear hHeld
    refine wpAnyH_done (by kernel_rfl) ?_ _
    try simp only [Act.put, List.getElem_toArray, List.getElem_cons_succ, List.getElem_cons_zero]
    have HZ6 := Lib.hid (HZ5.out.bel HB6.out)
    have hcs := (HZ6.out.so o1 o2).cr
    have hcs2 : CR w6 so 70 [u64 (T.so o1 o2).known, u64 may, .int .i64 ((T.so o1 o2).news : Int)] := by have hq : CR w6 (Y.so o1 o2) 70 [u64 (T.so o1 o2).known, u64 (T.so o1 o2).may, .int .i64 ((T.so o1 o2).news : Int)] := hcs; rw [HSOE.out, HMAY.out] at hq; exact hq
    have HCS := Lib.hid hcs2
    have s1 : w6.cell? ⟨so, 1, none⟩ = some (.int .u64 (may : Int)) := HCS.out.at_ 1
    have y1 : (may : Int) + 1 = (M1 : Int) := by have := HM1.out; omega
    have y2 : IntKind.u64.wrap (M1 : Int) = (M1 : Int) := IntWalk.u64_in _ (by have := HM1.out; have := HMB.out; rw [HMAY.out] at this; omega)
    clear hcs hcs2
    go_wp2_with (first
      | (refine L_min2 rfl M1 1152921504606846976 X HX.out rfl rfl (by rfl) ?_)
      | (refine L_store1 rfl 25 _ _ rfl (i := 1) (v := .int .u64 (X : Int)) HCS.out rfl rfl (by kernel_rfl) (Nat.le_of_ble_eq_true rfl) rfl ?_; intro w7 hc7 hg7; have HC7 := Lib.hid hc7; have HG7 := Lib.hid hg7; clear hc7 hg7)
      | (refine L_store1 rfl _ _ _ rfl (i := 2) (v := .int .i64 1) HC7.out rfl rfl (by kernel_rfl) (Nat.le_of_ble_eq_true rfl) rfl ?_; intro w8 hc8 hg8; have HC8 := Lib.hid hc8; have HG8 := Lib.hid hg8; clear hc8 hg8))
    go_end0
    have z8 := HZ6.out.setSo o1 o2 (s := { (Pi.setPast T id).so o1 o2 with may := X, news := 1 }) (w' := w8) (by rw [HSOE.out]; exact HG7.out.andThen HG8.out (fun j hj => by cases hj; exact Or.inr rfl)) (by rw [HSOE.out]; exact HC8.out)
    refine ⟨rfl, ?_, (HS5.out.trans (Stq.bel HB6.out HZ5.out.top)).trans z8.2⟩
    rw [HMAY.out, HM1.out, HX.out]
    exact z8.1
end
end Go.Proofs.Yteekafpkbdbadaa.Pi
