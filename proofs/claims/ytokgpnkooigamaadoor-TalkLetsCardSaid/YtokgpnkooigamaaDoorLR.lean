/- talk: say of a Subscribe, and of an Unsubscribe. -/
import Derived.Test.YtokgpnkooigamaaDoorTW
set_option maxRecDepth 100000
set_option linter.unusedVariables false
namespace Go.Proofs.YtokgpnkooigamaaDoor
open Go.RowKit
section
variable {w : World} {base g k : Nat} {S : SS} {A : SL} {m : MG} {s : ML}
theorem SZ.setM (h : SZ w base g S A) {l : List Value} (hr : CR w k 31 l) (hkf : ¬ FP g A k) (i : Nat) (v : Value) : SZ (w.setCell ⟨k, i, none⟩ v) base g S A :=
  h.keep (KB.set hr (by decide) (by decide) v) (fun b hf => Below.heap_setCell _ _ _ _ (fun he => hkf (by have he' : b = k := he; rw [← he']; exact hf)))
set_option maxHeartbeats 8000000 in
theorem say_credit (h : SZ w base g S A) (hr : CR w k 31 (mgc m s)) (hk : m.kind = 3) (hal : S.own.any (aliasB m.alias) = false) (hu : upS S = true) (hl : S.own.length ≤ 1048576) (hle : S.ol ≤ S.own.length) :
    Calls Tryd.prog 25 #[.pointer (some ⟨g, 0, none⟩), .pointer (some ⟨k, 0, none⟩)] w fun e w' => e = .returned (.int .i64 12) ∧ Below w.heap.size w w' := by
  have hn : S.own.length = A.ow.n := h.ow.n
  rw [hn] at hl hle
  have HP := Lib.hid (fun (x : World) (b : Below w.heap.size w x) => (⟨by have := (hr.bel b).at_ 0; unfold mgc Go.Proofs.YtokgpnkooigamaaDoor.u64 at this; rw [hk] at this; exact this, (hr.bel b).at_ 2, (h.bel b).row.at_ 1, (h.bel b).row.at_ 2⟩ : x.cell? ⟨k, 0, none⟩ = some (.int .u64 3) ∧ x.cell? ⟨k, 2, none⟩ = some (.int .u64 (m.alias : Int)) ∧ x.cell? ⟨g, 1, none⟩ = some (.slice A.ow.a A.ow.n A.ow.c) ∧ x.cell? ⟨g, 2, none⟩ = some (.int .u64 (S.ol : Int))))
  have hal2 := fun (x : World) (b : Below w.heap.size w x) => alias_any (w := x) (g := g) (o := 1) (h.bel b).ow (by omega) m.alias ((h.bel b).row.at_ 1)
  rw [hal] at hal2
  have HAL := Lib.hid hal2
  have hup := fun (x : World) (b : Below w.heap.size w x) => up_any (h.bel b)
  rw [hu] at hup
  have HUP := Lib.hid hup
  have HRQ := Lib.hid (fun (x : World) => request_any x 3)
  have hP := HP.out w (Below.refl _ _)
  obtain ⟨c0, c2, g1, g2⟩ := hP
  have q1 : decide (S.ol ≤ A.ow.n) = true := decide_eq_true hle
  have q3 : requestS 3 = true := rfl
  rw [q3] at HRQ
  clear hal2 hup h hr hk hal hu hn hle q3
  go_enter Tryd.func25, Tryd.ntmps25
  go_upto_region 6 with (go_at_call 24; refine (HRQ.out w).mono ?_; rintro y w3 ⟨rfl, rfl⟩)
  clear g1 g2 c0 c2
  obtain ⟨V, hV⟩ : ∃ V, w.drew = V := ⟨_, rfl⟩
  have bV : Below w.heap.size w V := by rw [← hV]; exact (Below.refl _ _).drew
  have HBV := Lib.hid bV
  refine wp_region_held_drew (S := fun x => x.cell? ⟨k, 0, none⟩ = some (.int .u64 3) ∧ x.cell? ⟨k, 2, none⟩ = some (.int .u64 (m.alias : Int))) (by kernel_rfl) ⟨(HP.out w (Below.refl _ _)).1, (HP.out w (Below.refl _ _)).2.1⟩ (fun hHeld => ?_)
  rw [hV] at hHeld ⊢
  clear bV hV
  refine wpAnyH_take (i := 0) (v := .pointer (some ⟨k, 0, none⟩)) rfl (by kernel_rfl) (by kernel_rfl) (by kernel_rfl) (fun _ _ _ h => h) (Or.inl ⟨by rfl, fun w h => by go_simp⟩) hHeld ?_
  try simp only [Act.put, List.getElem_toArray, List.getElem_cons_succ, List.getElem_cons_zero, List.setIfInBounds_toArray, List.set_cons_zero, List.set_cons_succ]
  refine wpAnyH_take (i := 1) (v := .pointer (some ⟨k, 0, none⟩)) rfl (by kernel_rfl) (by kernel_rfl) (by kernel_rfl) (fun _ _ _ h => h) (Or.inl ⟨by rfl, fun w h => by go_simp⟩) hHeld ?_
  try simp only [Act.put, List.getElem_toArray, List.getElem_cons_succ, List.getElem_cons_zero, List.setIfInBounds_toArray, List.set_cons_zero, List.set_cons_succ]
  refine wpAnyH_take (i := 2) (v := .pointer (some ⟨k, 0, none⟩)) rfl (by kernel_rfl) (by kernel_rfl) (by kernel_rfl) (fun _ _ _ h => h) (Or.inl ⟨by rfl, fun w h => by go_simp⟩) hHeld ?_
  try simp only [Act.put, List.getElem_toArray, List.getElem_cons_succ, List.getElem_cons_zero, List.setIfInBounds_toArray, List.set_cons_zero, List.set_cons_succ]
  refine wpAnyH_take (i := 3) (v := .int .u64 3) rfl (by kernel_rfl) (by kernel_rfl) (by kernel_rfl) (fun _ _ _ h => h) (Or.inl ⟨by rfl, fun w h => by go_simp⟩) hHeld ?_
  try simp only [Act.put, List.getElem_toArray, List.getElem_cons_succ, List.getElem_cons_zero, List.setIfInBounds_toArray, List.set_cons_zero, List.set_cons_succ]
  refine wpAnyH_take (i := 4) (v := .bool true) rfl (by kernel_rfl) (by kernel_rfl) (by kernel_rfl) (fun _ _ _ h => h) (Or.inl ⟨by rfl, fun w h => by go_simp⟩) hHeld ?_
  try simp only [Act.put, List.getElem_toArray, List.getElem_cons_succ, List.getElem_cons_zero, List.setIfInBounds_toArray, List.set_cons_zero, List.set_cons_succ]
  refine wpAnyH_take (i := 5) (v := .bool true) rfl (by kernel_rfl) (by kernel_rfl) (by kernel_rfl) (fun _ _ _ h => h) (Or.inl ⟨by rfl, fun w h => by go_simp⟩) hHeld ?_
  try simp only [Act.put, List.getElem_toArray, List.getElem_cons_succ, List.getElem_cons_zero, List.setIfInBounds_toArray, List.set_cons_zero, List.set_cons_succ]
  refine wpAnyH_take (i := 6) (v := .pointer (some ⟨g, 0, none⟩)) rfl (by kernel_rfl) (by kernel_rfl) (by kernel_rfl) (fun _ _ _ h => h) (Or.inl ⟨by rfl, fun w h => by go_simp⟩) hHeld ?_
  try simp only [Act.put, List.getElem_toArray, List.getElem_cons_succ, List.getElem_cons_zero, List.setIfInBounds_toArray, List.set_cons_zero, List.set_cons_succ]
  refine wpAnyH_take (i := 7) (v := .pointer (some ⟨g, 0, none⟩)) rfl (by kernel_rfl) (by kernel_rfl) (by kernel_rfl) (fun _ _ _ h => h) (Or.inl ⟨by rfl, fun w h => by go_simp⟩) hHeld ?_
  try simp only [Act.put, List.getElem_toArray, List.getElem_cons_succ, List.getElem_cons_zero, List.setIfInBounds_toArray, List.set_cons_zero, List.set_cons_succ]
  refine wpAnyH_take (i := 8) (v := .pointer (some ⟨g, 1, none⟩)) rfl (by kernel_rfl) (by kernel_rfl) (by kernel_rfl) (fun _ _ _ h => h) (Or.inl ⟨by rfl, fun w h => by go_simp⟩) hHeld ?_
  try simp only [Act.put, List.getElem_toArray, List.getElem_cons_succ, List.getElem_cons_zero, List.setIfInBounds_toArray, List.set_cons_zero, List.set_cons_succ]
  refine wpAnyH_take (i := 9) (v := .pointer (some ⟨k, 0, none⟩)) rfl (by kernel_rfl) (by kernel_rfl) (by kernel_rfl) (fun _ _ _ h => h) (Or.inl ⟨by rfl, fun w h => by go_simp⟩) hHeld ?_
  try simp only [Act.put, List.getElem_toArray, List.getElem_cons_succ, List.getElem_cons_zero, List.setIfInBounds_toArray, List.set_cons_zero, List.set_cons_succ]
  refine wpAnyH_take (i := 10) (v := .pointer (some ⟨k, 0, none⟩)) rfl (by kernel_rfl) (by kernel_rfl) (by kernel_rfl) (fun _ _ _ h => h) (Or.inl ⟨by rfl, fun w h => by go_simp⟩) hHeld ?_
  try simp only [Act.put, List.getElem_toArray, List.getElem_cons_succ, List.getElem_cons_zero, List.setIfInBounds_toArray, List.set_cons_zero, List.set_cons_succ]
  refine wpAnyH_take (i := 11) (v := .pointer (some ⟨k, 2, none⟩)) rfl (by kernel_rfl) (by kernel_rfl) (by kernel_rfl) (fun _ _ _ h => h) (Or.inl ⟨by rfl, fun w h => by go_simp⟩) hHeld ?_
  try simp only [Act.put, List.getElem_toArray, List.getElem_cons_succ, List.getElem_cons_zero, List.setIfInBounds_toArray, List.set_cons_zero, List.set_cons_succ]
  refine wpAnyH_take (i := 12) (v := .int .u64 (m.alias : Int)) rfl (by kernel_rfl) (by kernel_rfl) (by kernel_rfl) (fun _ _ _ h => h) (Or.inl ⟨by rfl, fun w h => by go_simp⟩) hHeld ?_
  try simp only [Act.put, List.getElem_toArray, List.getElem_cons_succ, List.getElem_cons_zero, List.setIfInBounds_toArray, List.set_cons_zero, List.set_cons_succ]
  refine wpAnyH_ready (rs := [13]) (by kernel_rfl) (by simp) (AllReadyH.cons rfl (fun K hK => ?_) AllReadyH.nil)
  go_simp
  go_at_call 39
  refine (HAL.out V HBV.out).mono ?_
  rintro y w2 ⟨rfl, B2⟩
  have HB2 := Lib.hid (btr HBV.out B2)
  refine hK.out _ _ ⟨(HP.out w2 HB2.out).1, (HP.out w2 HB2.out).2.1⟩ (fun hHeld => ?_)
  clear hK K B2
  try simp only [Act.put, List.getElem_toArray, List.getElem_cons_succ, List.getElem_cons_zero, List.setIfInBounds_toArray, List.set_cons_zero, List.set_cons_succ]
  refine wpAnyH_take (i := 14) (v := .bool false) rfl (by kernel_rfl) (by kernel_rfl) (by kernel_rfl) (fun _ _ _ h => h) (Or.inl ⟨by rfl, fun w h => by go_simp⟩) hHeld ?_
  try simp only [Act.put, List.getElem_toArray, List.getElem_cons_succ, List.getElem_cons_zero, List.setIfInBounds_toArray, List.set_cons_zero, List.set_cons_succ]
  refine wpAnyH_take (i := 15) (v := .bool false) rfl (by kernel_rfl) (by kernel_rfl) (by kernel_rfl) (fun _ _ _ h => h) (Or.inl ⟨by rfl, fun w h => by go_simp⟩) hHeld ?_
  try simp only [Act.put, List.getElem_toArray, List.getElem_cons_succ, List.getElem_cons_zero, List.setIfInBounds_toArray, List.set_cons_zero, List.set_cons_succ]
  refine wpAnyH_done (by kernel_rfl) ?_ _
  try simp only [Act.put, List.getElem_toArray, List.getElem_cons_succ, List.getElem_cons_zero]
  clear hHeld
  have d2 := (HP.out w2 HB2.out).2.2.2
  go_wp2_with (go_at_call 10; refine (HUP.out w2 HB2.out).mono ?_; rintro y w3 ⟨rfl, rfl⟩)
  go_ret
  exact ⟨rfl, HB2.out⟩
set_option maxHeartbeats 8000000 in
theorem say_sub (h : SZ w base g S A) (hr : CR w k 31 (mgc m s)) (hm : MO w base m s) (hkf : ¬ FP g A k) (hB : base ≤ w.heap.size) (hsv : S.srv = false) (hk : m.kind = 3) (hal : S.own.any (aliasB m.alias) = false) (hu : upS S = true) (hl : S.own.length ≤ 1048576) (hle : ¬ S.ol ≤ S.own.length) :
    Calls Tryd.prog 25 #[.pointer (some ⟨g, 0, none⟩), .pointer (some ⟨k, 0, none⟩)] w fun e w' => e = .returned (.int .i64 0) ∧ ∃ A' W0, SZ w' base g { S with own := S.own ++ [⟨{ m with id := S.own.length * 2 }, 1⟩] } A' ∧ CR w' k 31 (mgc { m with id := S.own.length * 2 } s) ∧ Below w.heap.size w W0 ∧ SK (W0.setCell ⟨k, 1, none⟩ (.int .u64 ((S.own.length * 2 : Nat) : Int))) g A w' A' := by
  have hn : S.own.length = A.ow.n := h.ow.n
  obtain ⟨X, hX⟩ : ∃ X, S.own.length * 2 = X := ⟨_, rfl⟩
  obtain ⟨mm, hmm⟩ : ∃ mm, { m with id := X } = mm := ⟨_, rfl⟩
  rw [hX, hmm]
  have HXI := Lib.hid (show (A.ow.n : Int) * 2 = (X : Int) by omega)
  have HMM := Lib.hid hmm
  have hmb : MO w base mm s := by
    rw [← hmm]
    exact ⟨⟨hm.b.1, by have := hl; simp only; omega, hm.b.3, hm.b.4, hm.b.5, hm.b.6, hm.b.7, hm.b.8, hm.b.9, hm.b.10, hm.b.11, hm.b.12⟩, hm.nm, hm.rs, hm.vs, hm.l1, hm.l2, hm.l3⟩
  clear hX hmm
  have HP := Lib.hid (fun (x : World) (b : Below w.heap.size w x) => (⟨by have := (hr.bel b).at_ 0; unfold mgc Go.Proofs.YtokgpnkooigamaaDoor.u64 at this; rw [hk] at this; exact this, (hr.bel b).at_ 2, (h.bel b).row.at_ 1, (h.bel b).row.at_ 2⟩ : x.cell? ⟨k, 0, none⟩ = some (.int .u64 3) ∧ x.cell? ⟨k, 2, none⟩ = some (.int .u64 (m.alias : Int)) ∧ x.cell? ⟨g, 1, none⟩ = some (.slice A.ow.a A.ow.n A.ow.c) ∧ x.cell? ⟨g, 2, none⟩ = some (.int .u64 (S.ol : Int))))
  have HR0 := Lib.hid (fun (x : World) (b : Below w.heap.size w x) => (hr.bel b))
  have HZ0 := Lib.hid (fun (x : World) (b : Below w.heap.size w x) => (h.bel b))
  have HM0 := Lib.hid (fun (x : World) (b : Below w.heap.size w x) => hmb.bel b (Nat.le_refl _))
  have hln : A.ow.n ≤ 1048576 := by omega
  have hal2 := fun (x : World) (b : Below w.heap.size w x) => alias_any (w := x) (g := g) (o := 1) (h.bel b).ow (by omega) m.alias ((h.bel b).row.at_ 1)
  rw [hal] at hal2
  have HAL := Lib.hid hal2
  have hup := fun (x : World) (b : Below w.heap.size w x) => up_any (h.bel b)
  rw [hu] at hup
  have HUP := Lib.hid hup
  have HRQ := Lib.hid (fun (x : World) => request_any x 3)
  have HKF := Lib.hid hkf
  have HSV := Lib.hid hsv
  have HN := Lib.hid hn
  have hP := HP.out w (Below.refl _ _)
  obtain ⟨c0, c2, g1, g2⟩ := hP
  have q1 : decide (S.ol ≤ A.ow.n) = false := decide_eq_false (by omega)
  have q3 : requestS 3 = true := rfl
  rw [q3] at HRQ
  clear hal2 hup h hr hk hal hu hle q3 hkf hsv hm hmb hl hn
  go_enter Tryd.func25, Tryd.ntmps25
  go_upto_region 6 with (go_at_call 24; refine (HRQ.out w).mono ?_; rintro y w3 ⟨rfl, rfl⟩)
  clear g1 g2 c0 c2
  obtain ⟨V, hV⟩ : ∃ V, w.drew = V := ⟨_, rfl⟩
  have bV : Below w.heap.size w V := by rw [← hV]; exact (Below.refl _ _).drew
  have HBV := Lib.hid bV
  refine wp_region_held_drew (S := fun x => x.cell? ⟨k, 0, none⟩ = some (.int .u64 3) ∧ x.cell? ⟨k, 2, none⟩ = some (.int .u64 (m.alias : Int))) (by kernel_rfl) ⟨(HP.out w (Below.refl _ _)).1, (HP.out w (Below.refl _ _)).2.1⟩ (fun hHeld => ?_)
  rw [hV] at hHeld ⊢
  clear bV hV
  refine wpAnyH_take (i := 0) (v := .pointer (some ⟨k, 0, none⟩)) rfl (by kernel_rfl) (by kernel_rfl) (by kernel_rfl) (fun _ _ _ h => h) (Or.inl ⟨by rfl, fun w h => by go_simp⟩) hHeld ?_
  try simp only [Act.put, List.getElem_toArray, List.getElem_cons_succ, List.getElem_cons_zero, List.setIfInBounds_toArray, List.set_cons_zero, List.set_cons_succ]
  refine wpAnyH_take (i := 1) (v := .pointer (some ⟨k, 0, none⟩)) rfl (by kernel_rfl) (by kernel_rfl) (by kernel_rfl) (fun _ _ _ h => h) (Or.inl ⟨by rfl, fun w h => by go_simp⟩) hHeld ?_
  try simp only [Act.put, List.getElem_toArray, List.getElem_cons_succ, List.getElem_cons_zero, List.setIfInBounds_toArray, List.set_cons_zero, List.set_cons_succ]
  refine wpAnyH_take (i := 2) (v := .pointer (some ⟨k, 0, none⟩)) rfl (by kernel_rfl) (by kernel_rfl) (by kernel_rfl) (fun _ _ _ h => h) (Or.inl ⟨by rfl, fun w h => by go_simp⟩) hHeld ?_
  try simp only [Act.put, List.getElem_toArray, List.getElem_cons_succ, List.getElem_cons_zero, List.setIfInBounds_toArray, List.set_cons_zero, List.set_cons_succ]
  refine wpAnyH_take (i := 3) (v := .int .u64 3) rfl (by kernel_rfl) (by kernel_rfl) (by kernel_rfl) (fun _ _ _ h => h) (Or.inl ⟨by rfl, fun w h => by go_simp⟩) hHeld ?_
  try simp only [Act.put, List.getElem_toArray, List.getElem_cons_succ, List.getElem_cons_zero, List.setIfInBounds_toArray, List.set_cons_zero, List.set_cons_succ]
  refine wpAnyH_take (i := 4) (v := .bool true) rfl (by kernel_rfl) (by kernel_rfl) (by kernel_rfl) (fun _ _ _ h => h) (Or.inl ⟨by rfl, fun w h => by go_simp⟩) hHeld ?_
  try simp only [Act.put, List.getElem_toArray, List.getElem_cons_succ, List.getElem_cons_zero, List.setIfInBounds_toArray, List.set_cons_zero, List.set_cons_succ]
  refine wpAnyH_take (i := 5) (v := .bool true) rfl (by kernel_rfl) (by kernel_rfl) (by kernel_rfl) (fun _ _ _ h => h) (Or.inl ⟨by rfl, fun w h => by go_simp⟩) hHeld ?_
  try simp only [Act.put, List.getElem_toArray, List.getElem_cons_succ, List.getElem_cons_zero, List.setIfInBounds_toArray, List.set_cons_zero, List.set_cons_succ]
  refine wpAnyH_take (i := 6) (v := .pointer (some ⟨g, 0, none⟩)) rfl (by kernel_rfl) (by kernel_rfl) (by kernel_rfl) (fun _ _ _ h => h) (Or.inl ⟨by rfl, fun w h => by go_simp⟩) hHeld ?_
  try simp only [Act.put, List.getElem_toArray, List.getElem_cons_succ, List.getElem_cons_zero, List.setIfInBounds_toArray, List.set_cons_zero, List.set_cons_succ]
  refine wpAnyH_take (i := 7) (v := .pointer (some ⟨g, 0, none⟩)) rfl (by kernel_rfl) (by kernel_rfl) (by kernel_rfl) (fun _ _ _ h => h) (Or.inl ⟨by rfl, fun w h => by go_simp⟩) hHeld ?_
  try simp only [Act.put, List.getElem_toArray, List.getElem_cons_succ, List.getElem_cons_zero, List.setIfInBounds_toArray, List.set_cons_zero, List.set_cons_succ]
  refine wpAnyH_take (i := 8) (v := .pointer (some ⟨g, 1, none⟩)) rfl (by kernel_rfl) (by kernel_rfl) (by kernel_rfl) (fun _ _ _ h => h) (Or.inl ⟨by rfl, fun w h => by go_simp⟩) hHeld ?_
  try simp only [Act.put, List.getElem_toArray, List.getElem_cons_succ, List.getElem_cons_zero, List.setIfInBounds_toArray, List.set_cons_zero, List.set_cons_succ]
  refine wpAnyH_take (i := 9) (v := .pointer (some ⟨k, 0, none⟩)) rfl (by kernel_rfl) (by kernel_rfl) (by kernel_rfl) (fun _ _ _ h => h) (Or.inl ⟨by rfl, fun w h => by go_simp⟩) hHeld ?_
  try simp only [Act.put, List.getElem_toArray, List.getElem_cons_succ, List.getElem_cons_zero, List.setIfInBounds_toArray, List.set_cons_zero, List.set_cons_succ]
  refine wpAnyH_take (i := 10) (v := .pointer (some ⟨k, 0, none⟩)) rfl (by kernel_rfl) (by kernel_rfl) (by kernel_rfl) (fun _ _ _ h => h) (Or.inl ⟨by rfl, fun w h => by go_simp⟩) hHeld ?_
  try simp only [Act.put, List.getElem_toArray, List.getElem_cons_succ, List.getElem_cons_zero, List.setIfInBounds_toArray, List.set_cons_zero, List.set_cons_succ]
  refine wpAnyH_take (i := 11) (v := .pointer (some ⟨k, 2, none⟩)) rfl (by kernel_rfl) (by kernel_rfl) (by kernel_rfl) (fun _ _ _ h => h) (Or.inl ⟨by rfl, fun w h => by go_simp⟩) hHeld ?_
  try simp only [Act.put, List.getElem_toArray, List.getElem_cons_succ, List.getElem_cons_zero, List.setIfInBounds_toArray, List.set_cons_zero, List.set_cons_succ]
  refine wpAnyH_take (i := 12) (v := .int .u64 (m.alias : Int)) rfl (by kernel_rfl) (by kernel_rfl) (by kernel_rfl) (fun _ _ _ h => h) (Or.inl ⟨by rfl, fun w h => by go_simp⟩) hHeld ?_
  try simp only [Act.put, List.getElem_toArray, List.getElem_cons_succ, List.getElem_cons_zero, List.setIfInBounds_toArray, List.set_cons_zero, List.set_cons_succ]
  refine wpAnyH_ready (rs := [13]) (by kernel_rfl) (by simp) (AllReadyH.cons rfl (fun K hK => ?_) AllReadyH.nil)
  go_simp
  go_at_call 39
  refine (HAL.out V HBV.out).mono ?_
  rintro y w2 ⟨rfl, B2⟩
  have HB2 := Lib.hid (btr HBV.out B2)
  refine hK.out _ _ ⟨(HP.out w2 HB2.out).1, (HP.out w2 HB2.out).2.1⟩ (fun hHeld => ?_)
  clear hK K B2
  try simp only [Act.put, List.getElem_toArray, List.getElem_cons_succ, List.getElem_cons_zero, List.setIfInBounds_toArray, List.set_cons_zero, List.set_cons_succ]
  refine wpAnyH_take (i := 14) (v := .bool false) rfl (by kernel_rfl) (by kernel_rfl) (by kernel_rfl) (fun _ _ _ h => h) (Or.inl ⟨by rfl, fun w h => by go_simp⟩) hHeld ?_
  try simp only [Act.put, List.getElem_toArray, List.getElem_cons_succ, List.getElem_cons_zero, List.setIfInBounds_toArray, List.set_cons_zero, List.set_cons_succ]
  refine wpAnyH_take (i := 15) (v := .bool false) rfl (by kernel_rfl) (by kernel_rfl) (by kernel_rfl) (fun _ _ _ h => h) (Or.inl ⟨by rfl, fun w h => by go_simp⟩) hHeld ?_
  try simp only [Act.put, List.getElem_toArray, List.getElem_cons_succ, List.getElem_cons_zero, List.setIfInBounds_toArray, List.set_cons_zero, List.set_cons_succ]
  refine wpAnyH_done (by kernel_rfl) ?_ _
  try simp only [Act.put, List.getElem_toArray, List.getElem_cons_succ, List.getElem_cons_zero]
  clear hHeld
  have d2 := (HP.out w2 HB2.out).2.2.2
  have f1 := (HR0.out w2 HB2.out).fr 1
  have d1 := (HR0.out w2 HB2.out).at_ 1
  obtain ⟨nx, hnx⟩ : ∃ x : Int, (A.ow.n : Int) * 2 = x := ⟨_, rfl⟩
  have hz3 := (HZ0.out w2 HB2.out).setM (HR0.out w2 HB2.out) HKF.out 1 (.int .u64 (X : Int))
  have hr3 : CR (w2.setCell ⟨k, 1, none⟩ (.int .u64 (X : Int))) k 31 (mgc mm s) := by rw [← HMM.out]; exact (HR0.out w2 HB2.out).set 1 (.int .u64 (X : Int))
  have hm3 := (HM0.out w2 HB2.out).kb (KB.set (o := 1) (HR0.out w2 HB2.out) (by decide) (by decide) (.int .u64 (X : Int)))
  have e0 : (w2.setCell ⟨k, 1, none⟩ (.int .u64 (X : Int))).cell? ⟨g, 0, none⟩ = some (.bool false) := by have := hz3.row.at_ 0; rw [HSV.out] at this; exact this
  have hB3 : base ≤ (w2.setCell ⟨k, 1, none⟩ (.int .u64 (X : Int))).heap.size := by have := HB2.out.size; simp [World.setCell]; omega
  obtain ⟨W3, hW3⟩ : ∃ x, w2.setCell ⟨k, 1, none⟩ (.int .u64 (X : Int)) = x := ⟨_, rfl⟩
  have HW3 := Lib.hid hW3
  rw [hW3] at hz3 hr3 hm3 hB3 e0
  have HE0 := Lib.hid e0
  have HZ3 := Lib.hid hz3
  have HR3 := Lib.hid hr3
  have HM3 := Lib.hid hm3
  have HBB3 := Lib.hid hB3
  clear hz3 hr3 hm3 hW3 hB3 e0 hnx nx
  go_upto_region 4 with (go_at_call 10; refine (HUP.out w2 HB2.out).mono ?_; rintro y w3 ⟨rfl, rfl⟩)
  rw [HXI.out, HW3.out]
  clear d1 d2 f1 q1
  have e0 := HE0.out
  go_upto_region 12 with (fail)
  clear e0
  obtain ⟨U, hU⟩ : ∃ U, W3.drew = U := ⟨_, rfl⟩
  have bU : Below W3.heap.size W3 U := by rw [← hU]; exact (Below.refl _ _).drew
  have hzU : SZ U base g S A := HZ3.out.bel bU
  have hmU := HM3.out.bel bU (Nat.le_refl _)
  have hrU := HR3.out.bel bU
  have hcp := copyOf_any U mm s hmU.mr
  have HZU := Lib.hid hzU
  have HRU := Lib.hid hrU
  have HSU := Lib.hid (SK.bel (g := g) (A := A) bU)
  have HBU := Lib.hid (Nat.le_trans HBB3.out bU.size)
  have H52 := Lib.hid (show W3.cell? ⟨g, 1, none⟩ = some (.slice A.ow.a A.ow.n A.ow.c) ∧ W3.rangeAt k 0 [.int .u64 (mm.kind : Int), .int .u64 (mm.id : Int), .int .u64 (mm.alias : Int), .slice s.nm.a s.nm.n s.nm.c, .int .u8 (mm.prio : Int), .int .u8 (mm.ord : Int), .int .u64 (mm.sg : Int), .int .u64 (mm.so : Int), .int .u64 (mm.eg : Int), .int .u64 (mm.eo : Int), .bool mm.some, .int .u64 (mm.code : Int), .slice s.rs.a s.rs.n s.rs.c, .int .u64 (mm.n : Int), .int .u64 (mm.ver : Int), .slice s.vs.a s.vs.n s.vs.c] from ⟨HZ3.out.row.at_ 1, HR3.out.rng⟩)
  unfold mgc Go.Proofs.YtokgpnkooigamaaDoor.u64 SA.v at hcp
  have HCP := Lib.hid hcp
  clear bU hzU hmU hrU hcp HZ0 HR0 HM0 HP HAL HUP HRQ HE0
  refine wp_region_U 16 (S := fun x => x.cell? ⟨g, 1, none⟩ = some (.slice A.ow.a A.ow.n A.ow.c) ∧ x.rangeAt k 0 [.int .u64 (mm.kind : Int), .int .u64 (mm.id : Int), .int .u64 (mm.alias : Int), .slice s.nm.a s.nm.n s.nm.c, .int .u8 (mm.prio : Int), .int .u8 (mm.ord : Int), .int .u64 (mm.sg : Int), .int .u64 (mm.so : Int), .int .u64 (mm.eg : Int), .int .u64 (mm.eo : Int), .bool mm.some, .int .u64 (mm.code : Int), .slice s.rs.a s.rs.n s.rs.c, .int .u64 (mm.n : Int), .int .u64 (mm.ver : Int), .slice s.vs.a s.vs.n s.vs.c]) (by kernel_rfl) H52.out (fun hHeld => ?_)
  rw [hU] at hHeld ⊢
  clear H52 hU
  refine wpAnyU_take (i := 0) (v := .pointer (some ⟨g, 0, none⟩)) rfl (by kernel_rfl) (by kernel_rfl) (by kernel_rfl) (by kernel_rfl) rfl (by kernel_rfl) (fun _ _ _ h => h) (Or.inl ⟨by rfl, fun w h => by go_simp⟩) hHeld ?_
  try simp only [Act.put, List.getElem_toArray, List.getElem_cons_succ, List.getElem_cons_zero, List.setIfInBounds_toArray, List.set_cons_zero, List.set_cons_succ]
  refine wpAnyU_take (i := 1) (v := .pointer (some ⟨g, 0, none⟩)) rfl (by kernel_rfl) (by kernel_rfl) (by kernel_rfl) (by kernel_rfl) rfl (by kernel_rfl) (fun _ _ _ h => h) (Or.inl ⟨by rfl, fun w h => by go_simp⟩) hHeld ?_
  try simp only [Act.put, List.getElem_toArray, List.getElem_cons_succ, List.getElem_cons_zero, List.setIfInBounds_toArray, List.set_cons_zero, List.set_cons_succ]
  refine wpAnyU_take (i := 2) (v := .pointer (some ⟨g, 0, none⟩)) rfl (by kernel_rfl) (by kernel_rfl) (by kernel_rfl) (by kernel_rfl) rfl (by kernel_rfl) (fun _ _ _ h => h) (Or.inl ⟨by rfl, fun w h => by go_simp⟩) hHeld ?_
  try simp only [Act.put, List.getElem_toArray, List.getElem_cons_succ, List.getElem_cons_zero, List.setIfInBounds_toArray, List.set_cons_zero, List.set_cons_succ]
  refine wpAnyU_take (i := 3) (v := .pointer (some ⟨g, 1, none⟩)) rfl (by kernel_rfl) (by kernel_rfl) (by kernel_rfl) (by kernel_rfl) rfl (by kernel_rfl) (fun _ _ _ h => h) (Or.inl ⟨by rfl, fun w h => by go_simp⟩) hHeld ?_
  try simp only [Act.put, List.getElem_toArray, List.getElem_cons_succ, List.getElem_cons_zero, List.setIfInBounds_toArray, List.set_cons_zero, List.set_cons_succ]
  refine wpAnyU_take (i := 4) (v := .pointer (some ⟨g, 1, none⟩)) rfl (by kernel_rfl) (by kernel_rfl) (by kernel_rfl) (by kernel_rfl) rfl (by kernel_rfl) (fun _ _ _ h => h) (Or.inl ⟨by rfl, fun w h => by go_simp⟩) hHeld ?_
  try simp only [Act.put, List.getElem_toArray, List.getElem_cons_succ, List.getElem_cons_zero, List.setIfInBounds_toArray, List.set_cons_zero, List.set_cons_succ]
  refine wpAnyU_take (i := 5) (v := .slice A.ow.a A.ow.n A.ow.c) rfl (by kernel_rfl) (by kernel_rfl) (by kernel_rfl) (by kernel_rfl) rfl (by kernel_rfl) (fun _ _ _ h => h) (Or.inl ⟨by rfl, fun w h => by go_simp⟩) hHeld ?_
  try simp only [Act.put, List.getElem_toArray, List.getElem_cons_succ, List.getElem_cons_zero, List.setIfInBounds_toArray, List.set_cons_zero, List.set_cons_succ]
  refine wpAnyU_take (i := 6) (v := .pointer (some ⟨k, 0, none⟩)) rfl (by kernel_rfl) (by kernel_rfl) (by kernel_rfl) (by kernel_rfl) rfl (by kernel_rfl) (fun _ _ _ h => h) (Or.inl ⟨by rfl, fun w h => by go_simp⟩) hHeld ?_
  try simp only [Act.put, List.getElem_toArray, List.getElem_cons_succ, List.getElem_cons_zero, List.setIfInBounds_toArray, List.set_cons_zero, List.set_cons_succ]
  refine wpAnyU_take (i := 7) (v := .pointer (some ⟨k, 0, none⟩)) rfl (by kernel_rfl) (by kernel_rfl) (by kernel_rfl) (by kernel_rfl) rfl (by kernel_rfl) (fun _ _ _ h => h) (Or.inl ⟨by rfl, fun w h => by go_simp⟩) hHeld ?_
  try simp only [Act.put, List.getElem_toArray, List.getElem_cons_succ, List.getElem_cons_zero, List.setIfInBounds_toArray, List.set_cons_zero, List.set_cons_succ]
  refine wpAnyU_take (i := 8) rfl (by kernel_rfl) (by kernel_rfl) (by kernel_rfl) (by kernel_rfl) rfl (by kernel_rfl) (fun _ _ _ h => h) (yieldsIf_load_mid (by rfl) _ _ rfl _ _ rfl _ _ (fun w h => h.2) Tryd.underlying31 rfl iMsg) hHeld ?_
  try simp only [Act.put, List.getElem_toArray, List.getElem_cons_succ, List.getElem_cons_zero, List.setIfInBounds_toArray, List.set_cons_zero, List.set_cons_succ]
  refine wpAnyU_ready (rs := [9]) (by kernel_rfl) (by simp) (AllReadyU.cons rfl (fun K hK => ?_) AllReadyU.nil)
  go_simp
  go_at_call 21
  refine HCP.out.mono ?_
  rintro y w3 ⟨s3, rfl, m3, b3⟩
  have hz4 := HZU.out.bel b3
  have hr4 := HRU.out.bel b3
  have hB4 := Nat.le_trans HBU.out b3.size
  have HM4 := Lib.hid (m3.mono HBU.out)
  have HZ4 := Lib.hid hz4
  have HR4 := Lib.hid hr4
  have HS4 := Lib.hid (HSU.out.trans (SK.bel (g := g) (A := A) b3))
  have HB4 := Lib.hid hB4
  refine hK.out _ _ ⟨hz4.row.at_ 1, hr4.rng⟩ (fun hHeld => ?_)
  clear hK K m3 b3 hz4 hr4 hB4 HCP HZU HRU HSU HBU
  try simp only [Act.put, List.getElem_toArray, List.getElem_cons_succ, List.getElem_cons_zero, List.setIfInBounds_toArray, List.set_cons_zero, List.set_cons_succ]
  refine wpAnyU_take (i := 10) (v := .agg #[.int .u64 (mm.kind : Int), .int .u64 (mm.id : Int), .int .u64 (mm.alias : Int), .slice s3.nm.a s3.nm.n s3.nm.c, .int .u8 (mm.prio : Int), .int .u8 (mm.ord : Int), .int .u64 (mm.sg : Int), .int .u64 (mm.so : Int), .int .u64 (mm.eg : Int), .int .u64 (mm.eo : Int), .bool mm.some, .int .u64 (mm.code : Int), .slice s3.rs.a s3.rs.n s3.rs.c, .int .u64 (mm.n : Int), .int .u64 (mm.ver : Int), .slice s3.vs.a s3.vs.n s3.vs.c, .int .i64 1]) rfl (by kernel_rfl) (by kernel_rfl) (by kernel_rfl) (by kernel_rfl) rfl (by kernel_rfl) (fun _ _ _ h => h) (Or.inl ⟨by rfl, fun w h => by go_simp⟩) hHeld ?_
  try simp only [Act.put, List.getElem_toArray, List.getElem_cons_succ, List.getElem_cons_zero, List.setIfInBounds_toArray, List.set_cons_zero, List.set_cons_succ]
  refine wpAnyU_ready (rs := [11]) (by kernel_rfl) (by simp) (AllReadyU.cons rfl (fun K hK => ?_) AllReadyU.nil)
  go_simp
  have hrs := (OW_made w3 0 49 17 (akc ⟨mm, 1⟩ s3).toArray 1 (Nat.zero_le _) rfl (by unfold maxLen; omega) (by
    intro v hv
    simp only [akc, List.mem_append, List.mem_singleton] at hv
    rcases hv with hv | rfl
    · exact mgc_one mm s3 v hv
    · rfl)).rs
  have hbU := below_alloc w3 (.cells (akc ⟨mm, 1⟩ s3).toArray 49)
  have hz5 := HZ4.out.bel hbU
  have HM5 := Lib.hid (HM4.out.bel hbU (Nat.le_refl _))
  have HR5 := Lib.hid (HR4.out.bel hbU)
  have HS5 := Lib.hid (HS4.out.trans (SK.bel (g := g) (A := A) hbU))
  have hB5 : base ≤ (w3.alloc (.cells (akc ⟨mm, 1⟩ s3).toArray 49)).heap.size := Nat.le_trans HB4.out hbU.size
  have HRS := Lib.hid hrs
  have HZ5 := Lib.hid hz5
  refine hK.out _ _ ⟨hz5.row.at_ 1, HR5.out.rng⟩ (fun hHeld => ?_)
  clear hK K hrs hz5 hbU HR4 HZ4 HM4 HS4 HB4
  try simp only [Act.put, List.getElem_toArray, List.getElem_cons_succ, List.getElem_cons_zero, List.setIfInBounds_toArray, List.set_cons_zero, List.set_cons_succ]
  have hwE : w3.alloc (.cells #[.int .u64 (mm.kind : Int), .int .u64 (mm.id : Int), .int .u64 (mm.alias : Int), .slice s3.nm.a s3.nm.n s3.nm.c, .int .u8 (mm.prio : Int), .int .u8 (mm.ord : Int), .int .u64 (mm.sg : Int), .int .u64 (mm.so : Int), .int .u64 (mm.eg : Int), .int .u64 (mm.eo : Int), .bool mm.some, .int .u64 (mm.code : Int), .slice s3.rs.a s3.rs.n s3.rs.c, .int .u64 (mm.n : Int), .int .u64 (mm.ver : Int), .slice s3.vs.a s3.vs.n s3.vs.c, .int .i64 1] 49) = w3.alloc (.cells (akc ⟨mm, 1⟩ s3).toArray 49) := rfl
  rw [hwE] at hHeld ⊢
  clear hwE
  generalize (World.alloc _ _) = w5 at *
  refine wpAnyU_ready (rs := [12]) (by kernel_rfl) (by simp) (AllReadyU.cons rfl (fun K hK => ?_) AllReadyU.nil)
  refine S_append_atZ tA HZ5.out.ow.row HRS.out _ _ rfl rfl rfl rfl (by omega) (by unfold maxLen; omega) hB5 ?_
  intro a2 c2 w6 o6 g6 d6
  have hap := HZ5.out.app_ow (x := ⟨mm, 1⟩) HM5.out o6 g6 d6
  have qf := hap.1.fr 1
  have HA := Lib.hid hap
  have hkk := HR5.out.keep (g6.block k HR5.out.lt (fun he => by
    obtain ⟨ad, h5, h6⟩ := Option.map_eq_some_iff.1 he.symm
    exact HZ5.out.ow.row.neCR HR5.out (by decide) ad h5 h6))
  have hgk : g ≠ k := fun he => HKF.out (.inl he.symm)
  have HK6 := Lib.hid (show ∀ v, CR (w6.setCell ⟨g, 1, none⟩ v) k 31 (mgc mm s) from fun v => hkk.keep (Below.heap_setCell _ _ _ _ (fun he => hgk he.symm)))
  refine hK.out _ _ ⟨HA.out.1.at_ 1, hkk.rng⟩ (fun hHeld => ?_)
  clear hK K hap o6 g6 d6 hkk hgk
  try simp only [Act.put, List.getElem_toArray, List.getElem_cons_succ, List.getElem_cons_zero, List.setIfInBounds_toArray, List.set_cons_zero, List.set_cons_succ]
  refine wpAnyU_ready (rs := [13]) (by kernel_rfl) (by simp) (AllReadyU.cons rfl (fun K hK => ?_) AllReadyU.nil)
  go_simp
  refine hK.out _ _ hHeld (fun hHeld => ?_)
  clear hK K
  try simp only [Act.put, List.getElem_toArray, List.getElem_cons_succ, List.getElem_cons_zero, List.setIfInBounds_toArray, List.set_cons_zero, List.set_cons_succ]
  refine wpAnyU_ready (rs := [14]) (by kernel_rfl) (by simp) (AllReadyU.cons rfl (fun K hK => ?_) AllReadyU.nil)
  go_simp
  refine hK.out _ _ hHeld (fun hHeld => ?_)
  clear hK K
  try simp only [Act.put, List.getElem_toArray, List.getElem_cons_succ, List.getElem_cons_zero, List.setIfInBounds_toArray, List.set_cons_zero, List.set_cons_succ]
  refine wpAnyU_ready (rs := [15]) (by kernel_rfl) (by simp) (AllReadyU.cons rfl (fun K hK => ?_) AllReadyU.nil)
  go_simp
  refine hK.out _ _ hHeld (fun hHeld => ?_)
  clear hK K
  try simp only [Act.put, List.getElem_toArray, List.getElem_cons_succ, List.getElem_cons_zero, List.setIfInBounds_toArray, List.set_cons_zero, List.set_cons_succ]
  have d5 := hHeld.1
  refine wpAnyU_ready (rs := [16]) (by kernel_rfl) (by simp) (AllReadyU.consT rfl (by kernel_rfl) (fun K hK => ?_) AllReadyU.nil)
  go_simp
  refine hK.out _ _ ?_
  clear hK K
  try simp only [Act.put, List.getElem_toArray, List.getElem_cons_succ, List.getElem_cons_zero, List.setIfInBounds_toArray, List.set_cons_zero, List.set_cons_succ]
  refine wpAnyU_done (by kernel_rfl) ?_ _
  try simp only [Act.put, List.getElem_toArray, List.getElem_cons_succ, List.getElem_cons_zero]
  go_wp2
  go_ret
  refine ⟨rfl, _, HA.out.2.1, HK6.out _, w2, HB2.out, ?_⟩
  rw [HW3.out]
  exact HS5.out.trans HA.out.2.2
set_option maxHeartbeats 8000000 in
theorem say_unsub (h : SZ w base g S A) (hr : CR w k 31 (mgc m s)) (hk : m.kind = 10) (hu : upS S = true) (hl : S.own.length ≤ 1048576) {i : Nat} {x : AG} (hfd : findS S.own m.id 3 = some i) (hx : S.own[i]? = some x) (hst : x.st ≠ 3) :
    Calls Tryd.prog 25 #[.pointer (some ⟨g, 0, none⟩), .pointer (some ⟨k, 0, none⟩)] w fun e w' => e = .returned (.int .i64 0) ∧ SZ w' base g { S with own := S.own.set i ⟨x.m, 3⟩ } A ∧ SK w g A w' A := by
  have hn : S.own.length = A.ow.n := h.ow.n
  have bV : Below w.heap.size w w.drew := (Below.refl _ _).drew
  have hzV := h.bel bV
  have c0 : w.cell? ⟨k, 0, none⟩ = some (.int .u64 10) := by have := hr.at_ 0; unfold mgc Go.Proofs.YtokgpnkooigamaaDoor.u64 at this; rw [hk] at this; exact this
  have c1 : w.cell? ⟨k, 1, none⟩ = some (.int .u64 (m.id : Int)) := hr.at_ 1
  have hrq := request_any w 10
  rw [show requestS 10 = false from rfl] at hrq
  have hrp := reply_any w 10
  rw [show replyS 10 = (0, false) from rfl] at hrp
  have hen := fun (y : World) => end_any y 10
  rw [show endS 10 = 3 from rfl] at hen
  obtain ⟨b, hb, _⟩ := hzV.ow.blk hx
  have hfn := find_yes hzV.ow (hzV.row.at_ 1) (by omega) m.id 3 i b hfd hb
  obtain ⟨l, hl2⟩ := hzV.ow.loc hx
  have cst : w.drew.cell? ⟨b, i * 17 + 16, none⟩ = some (.int .i64 (x.st : Int)) := hzV.ow.rng hx hl2 hb 16 _ rfl
  have fst : w.drew.frozen? ⟨b, i * 17 + 16, none⟩ = false := by have := hzV.ow.row; rw [hb] at this; exact this.frz _
  have hset := hzV.st_ow hx hb 3
  have hrd := ready_any hzV
  rw [hu] at hrd
  have hrd2 : Calls Tryd.prog 40 #[.pointer (some ⟨g, 0, none⟩)] w.drew fun e w' => e = .returned (.int .i64 0) ∧ w.drew = w' := hrd
  have q3 : ((x.st : Int) == 3) = false := by simp; omega
  have HC := Lib.hid (⟨c0, c1⟩ : w.cell? ⟨k, 0, none⟩ = some (.int .u64 10) ∧ w.cell? ⟨k, 1, none⟩ = some (.int .u64 (m.id : Int)))
  have HSV := Lib.hid (SK.bel (g := g) (A := A) bV)
  obtain ⟨J, hJ⟩ : ∃ J, i * 17 = J := ⟨_, rfl⟩
  rw [hJ] at hfn cst fst hset
  have HRQ := Lib.hid hrq
  have HRP := Lib.hid hrp
  have HEN := Lib.hid hen
  clear hrq hrp hen hrd h hr hk hu hl hfd hx hst hn bV hl2 hJ
  obtain ⟨V, hV⟩ : ∃ V, w.drew = V := ⟨_, rfl⟩
  rw [hV] at hfn cst fst hset hrd2 HSV hzV
  have HFN := Lib.hid hfn
  have HSE := Lib.hid hset
  have HRD := Lib.hid hrd2
  clear hfn hset hrd2 hzV
  go_enter Tryd.func25, Tryd.ntmps25
  go_upto_region 32 with (first
    | (go_at_call 24; refine HRQ.out.mono ?_; rintro y w3 ⟨rfl, rfl⟩)
    | (go_at_call 33; refine HRP.out.mono ?_; rintro y w3 ⟨rfl, rfl⟩)
    | (go_at_call 34; refine (HEN.out w).mono ?_; rintro y w3 ⟨rfl, rfl⟩))
  clear c0 c1 HRQ HRP
  refine wp_region_held_drew (S := fun x => x.cell? ⟨k, 0, none⟩ = some (.int .u64 10) ∧ x.cell? ⟨k, 1, none⟩ = some (.int .u64 (m.id : Int))) (by kernel_rfl) HC.out (fun hHeld => ?_)
  rw [hV] at hHeld ⊢
  clear hV HC
  refine wpAnyH_take (i := 0) (v := .pointer (some ⟨g, 0, none⟩)) rfl (by kernel_rfl) (by kernel_rfl) (by kernel_rfl) (fun _ _ _ h => h) (Or.inl ⟨by rfl, fun w h => by go_simp⟩) hHeld ?_
  try simp only [Act.put, List.getElem_toArray, List.getElem_cons_succ, List.getElem_cons_zero, List.setIfInBounds_toArray, List.set_cons_zero, List.set_cons_succ]
  refine wpAnyH_take (i := 1) (v := .pointer (some ⟨g, 0, none⟩)) rfl (by kernel_rfl) (by kernel_rfl) (by kernel_rfl) (fun _ _ _ h => h) (Or.inl ⟨by rfl, fun w h => by go_simp⟩) hHeld ?_
  try simp only [Act.put, List.getElem_toArray, List.getElem_cons_succ, List.getElem_cons_zero, List.setIfInBounds_toArray, List.set_cons_zero, List.set_cons_succ]
  refine wpAnyH_take (i := 2) (v := .pointer (some ⟨g, 1, none⟩)) rfl (by kernel_rfl) (by kernel_rfl) (by kernel_rfl) (fun _ _ _ h => h) (Or.inl ⟨by rfl, fun w h => by go_simp⟩) hHeld ?_
  try simp only [Act.put, List.getElem_toArray, List.getElem_cons_succ, List.getElem_cons_zero, List.setIfInBounds_toArray, List.set_cons_zero, List.set_cons_succ]
  refine wpAnyH_take (i := 3) (v := .pointer (some ⟨k, 0, none⟩)) rfl (by kernel_rfl) (by kernel_rfl) (by kernel_rfl) (fun _ _ _ h => h) (Or.inl ⟨by rfl, fun w h => by go_simp⟩) hHeld ?_
  try simp only [Act.put, List.getElem_toArray, List.getElem_cons_succ, List.getElem_cons_zero, List.setIfInBounds_toArray, List.set_cons_zero, List.set_cons_succ]
  refine wpAnyH_take (i := 4) (v := .pointer (some ⟨k, 0, none⟩)) rfl (by kernel_rfl) (by kernel_rfl) (by kernel_rfl) (fun _ _ _ h => h) (Or.inl ⟨by rfl, fun w h => by go_simp⟩) hHeld ?_
  try simp only [Act.put, List.getElem_toArray, List.getElem_cons_succ, List.getElem_cons_zero, List.setIfInBounds_toArray, List.set_cons_zero, List.set_cons_succ]
  refine wpAnyH_take (i := 5) (v := .pointer (some ⟨k, 1, none⟩)) rfl (by kernel_rfl) (by kernel_rfl) (by kernel_rfl) (fun _ _ _ h => h) (Or.inl ⟨by rfl, fun w h => by go_simp⟩) hHeld ?_
  try simp only [Act.put, List.getElem_toArray, List.getElem_cons_succ, List.getElem_cons_zero, List.setIfInBounds_toArray, List.set_cons_zero, List.set_cons_succ]
  refine wpAnyH_take (i := 6) (v := .int .u64 (m.id : Int)) rfl (by kernel_rfl) (by kernel_rfl) (by kernel_rfl) (fun _ _ _ h => h) (Or.inl ⟨by rfl, fun w h => by go_simp⟩) hHeld ?_
  try simp only [Act.put, List.getElem_toArray, List.getElem_cons_succ, List.getElem_cons_zero, List.setIfInBounds_toArray, List.set_cons_zero, List.set_cons_succ]
  refine wpAnyH_take (i := 7) (v := .pointer (some ⟨k, 0, none⟩)) rfl (by kernel_rfl) (by kernel_rfl) (by kernel_rfl) (fun _ _ _ h => h) (Or.inl ⟨by rfl, fun w h => by go_simp⟩) hHeld ?_
  try simp only [Act.put, List.getElem_toArray, List.getElem_cons_succ, List.getElem_cons_zero, List.setIfInBounds_toArray, List.set_cons_zero, List.set_cons_succ]
  refine wpAnyH_take (i := 8) (v := .pointer (some ⟨k, 0, none⟩)) rfl (by kernel_rfl) (by kernel_rfl) (by kernel_rfl) (fun _ _ _ h => h) (Or.inl ⟨by rfl, fun w h => by go_simp⟩) hHeld ?_
  try simp only [Act.put, List.getElem_toArray, List.getElem_cons_succ, List.getElem_cons_zero, List.setIfInBounds_toArray, List.set_cons_zero, List.set_cons_succ]
  refine wpAnyH_take (i := 9) (v := .pointer (some ⟨k, 0, none⟩)) rfl (by kernel_rfl) (by kernel_rfl) (by kernel_rfl) (fun _ _ _ h => h) (Or.inl ⟨by rfl, fun w h => by go_simp⟩) hHeld ?_
  try simp only [Act.put, List.getElem_toArray, List.getElem_cons_succ, List.getElem_cons_zero, List.setIfInBounds_toArray, List.set_cons_zero, List.set_cons_succ]
  refine wpAnyH_take (i := 10) (v := .int .u64 10) rfl (by kernel_rfl) (by kernel_rfl) (by kernel_rfl) (fun _ _ _ h => h) (Or.inl ⟨by rfl, fun w h => by go_simp⟩) hHeld ?_
  try simp only [Act.put, List.getElem_toArray, List.getElem_cons_succ, List.getElem_cons_zero, List.setIfInBounds_toArray, List.set_cons_zero, List.set_cons_succ]
  refine wpAnyH_ready (rs := [11]) (by kernel_rfl) (by simp) (AllReadyH.cons rfl (fun K hK => ?_) AllReadyH.nil)
  go_simp
  go_at_call 34
  refine (HEN.out V).mono ?_
  rintro y w3 ⟨rfl, rfl⟩
  refine hK.out _ _ hHeld (fun hHeld => ?_)
  clear hK
  try simp only [Act.put, List.getElem_toArray, List.getElem_cons_succ, List.getElem_cons_zero, List.setIfInBounds_toArray, List.set_cons_zero, List.set_cons_succ]
  refine wpAnyH_ready (rs := [12]) (by kernel_rfl) (by simp) (AllReadyH.cons rfl (fun K hK => ?_) AllReadyH.nil)
  go_simp
  go_at_call 29
  refine HFN.out.mono ?_
  rintro y w3 ⟨rfl, rfl⟩
  refine hK.out _ _ hHeld (fun hHeld => ?_)
  clear hK
  try simp only [Act.put, List.getElem_toArray, List.getElem_cons_succ, List.getElem_cons_zero, List.setIfInBounds_toArray, List.set_cons_zero, List.set_cons_succ]
  refine wpAnyH_take (i := 13) (v := .pointer (some ⟨b, J, none⟩)) rfl (by kernel_rfl) (by kernel_rfl) (by kernel_rfl) (fun _ _ _ h => h) (Or.inl ⟨by rfl, fun w h => by go_simp⟩) hHeld ?_
  try simp only [Act.put, List.getElem_toArray, List.getElem_cons_succ, List.getElem_cons_zero, List.setIfInBounds_toArray, List.set_cons_zero, List.set_cons_succ]
  refine wpAnyH_take (i := 14) (v := .bool true) rfl (by kernel_rfl) (by kernel_rfl) (by kernel_rfl) (fun _ _ _ h => h) (Or.inl ⟨by rfl, fun w h => by go_simp⟩) hHeld ?_
  try simp only [Act.put, List.getElem_toArray, List.getElem_cons_succ, List.getElem_cons_zero, List.setIfInBounds_toArray, List.set_cons_zero, List.set_cons_succ]
  refine wpAnyH_done (by kernel_rfl) ?_ _
  try simp only [Act.put, List.getElem_toArray, List.getElem_cons_succ, List.getElem_cons_zero]
  clear hHeld HFN HEN
  go_wp2_with (go_at_call 40; refine HRD.out.mono ?_; rintro y w3 ⟨rfl, rfl⟩)
  go_ret
  exact ⟨rfl, HSE.out.1, HSV.out.trans HSE.out.2⟩
end
end Go.Proofs.YtokgpnkooigamaaDoor
