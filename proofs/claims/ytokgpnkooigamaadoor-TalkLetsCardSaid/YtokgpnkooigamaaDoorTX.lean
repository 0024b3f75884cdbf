/- talk's hear: setups that are taken. -/
import Derived.Test.YtokgpnkooigamaaDoorTW
set_option maxRecDepth 100000
set_option linter.unusedVariables false
namespace Go.Proofs.YtokgpnkooigamaaDoor
open Go.RowKit
section
variable {w : World} {base g : Nat} {S : SS} {A : SL}
set_option maxHeartbeats 8000000 in
theorem hear_s32 (h : SZ w base g S A) {m : MG} {s : ML} (hm : MO w base m s) (hK : KA w) (hl : S.their.length ≤ 1048576) (ho : S.out.length ≤ 1048576) (hB : base ≤ w.heap.size) (hr : rightM m = true) (hs : setupB S m = true) (hd : S.heard = false) (hkd : m.kind = 32) (hsrv : S.srv = true) (htl : S.tl < 18446744073709551616) (hv : m.vers.contains 1 = true) :
    Calls Tryd.prog 20 #[.pointer (some ⟨g, 0, none⟩), .agg (mgc m s).toArray] w fun e w' => e = .returned (.int .u64 0) ∧ ∃ A', SZ w' base g { S with heard := true, ol := min m.n 1152921504606846976, out := S.out ++ [mNV 33 S.tl 1] } A' ∧ SK w g A w' A' := by
  have HHD := Lib.hid hd
  obtain ⟨Q, hQ⟩ : ∃ Q, m.vers.contains 1 = Q := ⟨_, rfl⟩
  have HQ := Lib.hid hQ
  obtain rfl : Q = true := by rw [← hQ]; exact hv
  have HSRV := Lib.hid hsrv
  have HTL := Lib.hid htl
  clear hsrv htl
  have q32 : ((m.kind : Int) == 32) = true := by simp; omega
  clear hQ hv hkd
  obtain ⟨h1, hm1, hR, hb⟩ := boxed h hm
  obtain ⟨k, hk⟩ : ∃ k, w.heap.size = k := ⟨_, rfl⟩
  obtain ⟨w1, hw1⟩ : ∃ x', w.alloc (.cells (mgc m s).toArray 31) = x' := ⟨_, rfl⟩
  rw [hw1, hk] at hR
  rw [hw1] at hb h1 hm1
  have c0 : w1.cell? ⟨k, 0, none⟩ = some (.int .u64 (m.kind : Int)) := hR.at_ 0
  have g0 : w1.cell? ⟨g, 0, none⟩ = some (.bool S.srv) := h1.row.at_ 0
  have hrt := tright_any w1 m s hm1.mr (hK.bel hb (Nat.le_refl _))
  obtain ⟨sb, hsb⟩ : ∃ b, setupB S m = b := ⟨_, rfl⟩
  rw [hr] at hrt
  have HB := Lib.hid hb
  have HR := Lib.hid hR
  have H1 := Lib.hid h1
  have HM1 := Lib.hid hm1
  have HSK1 := Lib.hid (SK.bel (g := g) (A := A) hb)
  have HRT := Lib.hid hrt
  have HSB := Lib.hid hsb
  have Hrg := Lib.hid hR.rng
  clear hb hR h h1 hm hm1 hK hrt
  unfold mgc u64 SA.v at hw1 ⊢
  go_enter Tryd.func20, Tryd.ntmps20
  go_upto_region 1 with (fail)
  go_cut [5] (fun s5 wx => s5 = .bool sb ∧ w1 = wx)
  case first => as_aux_lemma =>
    clear HRT HSK1 HM1 H1 HR HB Hrg hr hs hd HHD HQ q32 HSRV HTL
    obtain ⟨sv, hsv⟩ : ∃ b, S.srv = b := ⟨_, rfl⟩
    rw [hsv] at g0
    unfold setupB at hsb
    rw [hsv] at hsb
    clear hsv HSB
    by_cases k32 : m.kind = 32
    · have q32 : ((m.kind : Int) == 32) = true := by simp; omega
      have q33 : ((m.kind : Int) == 33) = false := by simp; omega
      cases sv with
      | true =>
        have e1 : sb = true := by rw [← hsb]; simp [k32]
        subst e1
        clear hsb k32
        go_wp2
        go_meet
        exact ⟨rfl, rfl⟩
      | false =>
        have e1 : sb = false := by rw [← hsb]; simp [k32]
        subst e1
        clear hsb k32
        go_wp2
        go_meet
        exact ⟨rfl, rfl⟩
    · have q32 : ((m.kind : Int) == 32) = false := by simp; omega
      by_cases k33 : m.kind = 33
      · have q33 : ((m.kind : Int) == 33) = true := by simp; omega
        cases sv with
        | true =>
          have e1 : sb = false := by rw [← hsb]; simp [k33]
          subst e1
          clear hsb k32 k33
          go_wp2
          go_meet
          exact ⟨rfl, rfl⟩
        | false =>
          have e1 : sb = true := by rw [← hsb]; simp [k33]
          subst e1
          clear hsb k32 k33
          go_wp2
          go_meet
          exact ⟨rfl, rfl⟩
      · have q33 : ((m.kind : Int) == 33) = false := by simp; omega
        have e1 : sb = false := by rw [← hsb]; simp [k32, k33]
        subst e1
        clear hsb k32 k33
        go_wp2
        go_meet
        exact ⟨rfl, rfl⟩
  case rest =>
  obtain ⟨rfl, rfl⟩ := hcut
  obtain rfl : sb = true := by rw [← HSB.out]; exact hs
  clear hs hd hr hsb
  go_upto_region 4 with (first
    | (refine L_loadG 31 _ rfl (by rfl) _ _ rfl _ _ Hrg.out Tryd.underlying31 rfl iMsg ?_)
    | (go_at_call 23; refine HRT.out.mono ?_; rintro y w2 ⟨rfl, B2⟩; have HB2 := Lib.hid B2; have g6 : w2.cell? ⟨g, 6, none⟩ = some (.bool false) := (by have := (H1.out.bel B2).row.at_ 6; rw [HHD.out] at this; exact this); clear B2))
  have hr2 := HR.out.bel HB2.out
  have c0b : w2.cell? ⟨k, 0, none⟩ = some (.int .u64 (m.kind : Int)) := hr2.at_ 0
  have c12 : w2.cell? ⟨k, 14, none⟩ = some (.int .u64 (m.ver : Int)) := hr2.at_ 14
  have c13 : w2.cell? ⟨k, 15, none⟩ = some (.slice s.vs.a s.vs.n s.vs.c) := hr2.at_ 15
  have c11 : w2.cell? ⟨k, 13, none⟩ = some (.int .u64 (m.n : Int)) := hr2.at_ 13
  have HCT := Lib.hid (ucontains_any w2 (HM1.out.bel HB2.out (Nat.le_refl _)).vs.rs (HM1.out.bel HB2.out (Nat.le_refl _)).l3 1)
  rw [HQ.out] at HCT
  clear g6 c0 g0
  go_upto_region 7 with (first | (go_at_call 31; refine HCT.out.mono ?_; rintro y w3 ⟨rfl, rfl⟩) | fail)
  have hz2 := H1.out.bel HB2.out
  obtain ⟨V, hV⟩ : ∃ V, w2.drew = V := ⟨_, rfl⟩
  have hzV : SZ V base g S A := by rw [← hV]; exact hz2.drew
  have hsV : SK w g A V A := by rw [← hV]; exact (HSK1.out.trans (SK.bel HB2.out)).trans (SK.bel (Below.refl _ _).drew)
  have hBV : base ≤ V.heap.size := Nat.le_trans hB hsV.size
  have g6V : V.cell? ⟨g, 6, none⟩ = some (.bool S.heard) := hzV.row.at_ 6
  have f6V := hzV.row.fr 6
  have g2V : V.cell? ⟨g, 2, none⟩ = some (.int .u64 (S.ol : Int)) := hzV.row.at_ 2
  have f2V := hzV.row.fr 2
  obtain ⟨N, hN⟩ : ∃ N, min m.n 1152921504606846976 = N := ⟨_, rfl⟩
  have hrV : CR V k 31 (mgc m s) := by rw [← hV]; exact hr2
  have hgk : g ≠ k := fun he => by
    have h5 := hzV.row
    have h6 := hrV
    rw [← he] at h6
    unfold CR at h5 h6
    rw [h6] at h5
    injection h5 with h5
    injection h5 with h7 h8
    cases h8
  have hmn : ∀ (ts : Array TypeId) (t : TypeId) (W : World), (Builtin.min_ ts t #[.int .u64 (m.n : Int), .int .u64 1152921504606846976]).run Tryd.prog W = .ok (.int .u64 (N : Int)) W := fun ts t W => by rw [← hN]; exact min2 W ts t m.n 1152921504606846976
  have c11V : w2.cell? ⟨k, 13, none⟩ = some (.int .u64 (m.n : Int)) := c11
  have h6 := hzV.set_heard true
  have h2 := h6.1.set_ol N
  have g8 := h2.1.row.at_ 0
  have HN := Lib.hid hN
  have HZV := Lib.hid h2.1
  have HSV := Lib.hid (hsV.trans (h6.2.trans h2.2))
  have HBV := Lib.hid hBV
  have HG8 := Lib.hid g8
  have HC11 := Lib.hid c11V
  clear hr2 hz2 hzV hsV hBV h6 h2 g8 hN c11V c11 c12 c13 c0b HCT HRT HSK1 HM1 H1 Hrg HSB HB HB2 HR
  have h13 : ∀ (o : Nat) (v : Value) , (V.setCell ⟨g, o, none⟩ v).cell? ⟨k, 13, none⟩ = some (.int .u64 (m.n : Int)) := fun o v => (hrV.keep (Below.heap_setCell _ _ _ _ (fun he => hgk he.symm))).at_ 13
  have H13 := Lib.hid h13
  clear h13 hrV hgk
  refine wp_region_U 11 (S := fun y => y.cell? ⟨k, 13, none⟩ = some (.int .u64 (m.n : Int))) (by kernel_rfl) HC11.out (fun hHeld => ?_)
  rw [hV] at hHeld ⊢
  clear HC11 hV
  refine wpAnyU_take (i := 0) (v := .pointer (some ⟨g, 0, none⟩)) rfl (by kernel_rfl) (by kernel_rfl) (by kernel_rfl) (by kernel_rfl) rfl (by kernel_rfl) (fun _ _ _ h => h) (Or.inl ⟨by rfl, fun w h => by go_simp⟩) hHeld ?_
  try simp only [Act.put, List.getElem_toArray, List.getElem_cons_zero, List.setIfInBounds_toArray, List.set_cons_zero, List.set_cons_succ]
  refine wpAnyU_take (i := 1) (v := .pointer (some ⟨g, 0, none⟩)) rfl (by kernel_rfl) (by kernel_rfl) (by kernel_rfl) (by kernel_rfl) rfl (by kernel_rfl) (fun _ _ _ h => h) (Or.inl ⟨by rfl, fun w h => by go_simp⟩) hHeld ?_
  try simp only [Act.put, List.getElem_toArray, List.getElem_cons_succ, List.getElem_cons_zero, List.setIfInBounds_toArray, List.set_cons_zero, List.set_cons_succ]
  refine wpAnyU_take (i := 2) (v := .pointer (some ⟨k, 13, none⟩)) rfl (by kernel_rfl) (by kernel_rfl) (by kernel_rfl) (by kernel_rfl) rfl (by kernel_rfl) (fun _ _ _ h => h) (Or.inl ⟨by rfl, fun w h => by go_simp⟩) hHeld ?_
  try simp only [Act.put, List.getElem_toArray, List.getElem_cons_succ, List.getElem_cons_zero, List.setIfInBounds_toArray, List.set_cons_zero, List.set_cons_succ]
  refine wpAnyU_take (i := 3) (v := .int .u64 (m.n : Int)) rfl (by kernel_rfl) (by kernel_rfl) (by kernel_rfl) (by kernel_rfl) rfl (by kernel_rfl) (fun _ _ _ h => h) (Or.inl ⟨by rfl, fun w h => by go_simp⟩) hHeld ?_
  try simp only [Act.put, List.getElem_toArray, List.getElem_cons_succ, List.getElem_cons_zero, List.setIfInBounds_toArray, List.set_cons_zero, List.set_cons_succ]
  refine wpAnyU_take (i := 4) (v := .int .u64 (N : Int)) rfl (by kernel_rfl) (by kernel_rfl) (by kernel_rfl) (by kernel_rfl) rfl (by kernel_rfl) (fun _ _ _ h => h) (Or.inl ⟨by rfl, fun w h => by go_simp⟩) hHeld ?_
  try simp only [Act.put, List.getElem_toArray, List.getElem_cons_succ, List.getElem_cons_zero, List.setIfInBounds_toArray, List.set_cons_zero, List.set_cons_succ]
  refine wpAnyU_take (i := 5) (v := .pointer (some ⟨g, 0, none⟩)) rfl (by kernel_rfl) (by kernel_rfl) (by kernel_rfl) (by kernel_rfl) rfl (by kernel_rfl) (fun _ _ _ h => h) (Or.inl ⟨by rfl, fun w h => by go_simp⟩) hHeld ?_
  try simp only [Act.put, List.getElem_toArray, List.getElem_cons_succ, List.getElem_cons_zero, List.setIfInBounds_toArray, List.set_cons_zero, List.set_cons_succ]
  refine wpAnyU_take (i := 6) (v := .pointer (some ⟨g, 6, none⟩)) rfl (by kernel_rfl) (by kernel_rfl) (by kernel_rfl) (by kernel_rfl) rfl (by kernel_rfl) (fun _ _ _ h => h) (Or.inl ⟨by rfl, fun w h => by go_simp⟩) hHeld ?_
  try simp only [Act.put, List.getElem_toArray, List.getElem_cons_succ, List.getElem_cons_zero, List.setIfInBounds_toArray, List.set_cons_zero, List.set_cons_succ]
  clear hmn
  refine wpAnyU_ready (rs := [7]) (by kernel_rfl) (by simp) (AllReadyU.cons rfl (fun K hK => ?_) AllReadyU.nil)
  go_simp
  refine hK.out _ _ (H13.out 6 _) (fun hHeld => ?_)
  clear hK K
  try simp only [Act.put, List.getElem_toArray, List.getElem_cons_succ, List.getElem_cons_zero, List.setIfInBounds_toArray, List.set_cons_zero, List.set_cons_succ]
  refine wpAnyU_ready (rs := [8]) (by kernel_rfl) (by simp) (AllReadyU.cons rfl (fun K hK => ?_) AllReadyU.nil)
  go_simp
  refine hK.out _ _ hHeld (fun hHeld => ?_)
  clear hK K
  try simp only [Act.put, List.getElem_toArray, List.getElem_cons_succ, List.getElem_cons_zero, List.setIfInBounds_toArray, List.set_cons_zero, List.set_cons_succ]
  refine wpAnyU_ready (rs := [9]) (by kernel_rfl) (by simp) (AllReadyU.cons rfl (fun K hK => ?_) AllReadyU.nil)
  go_simp
  refine hK.out _ _ hHeld (fun hHeld => ?_)
  clear hK K
  try simp only [Act.put, List.getElem_toArray, List.getElem_cons_succ, List.getElem_cons_zero, List.setIfInBounds_toArray, List.set_cons_zero, List.set_cons_succ]
  refine wpAnyU_take (i := 10) (v := .pointer (some ⟨g, 2, none⟩)) rfl (by kernel_rfl) (by kernel_rfl) (by kernel_rfl) (by kernel_rfl) rfl (by kernel_rfl) (fun _ _ _ h => h) (Or.inl ⟨by rfl, fun w h => by go_simp⟩) hHeld ?_
  try simp only [Act.put, List.getElem_toArray, List.getElem_cons_succ, List.getElem_cons_zero, List.setIfInBounds_toArray, List.set_cons_zero, List.set_cons_succ]
  refine wpAnyU_ready (rs := [11]) (by kernel_rfl) (by simp) (AllReadyU.consT rfl (by kernel_rfl) (fun K hK => ?_) AllReadyU.nil)
  go_simp
  refine hK.out _ _ ?_
  clear hK K
  try simp only [Act.put, List.getElem_toArray, List.getElem_cons_succ, List.getElem_cons_zero, List.setIfInBounds_toArray, List.set_cons_zero, List.set_cons_succ]
  refine wpAnyU_done (by kernel_rfl) ?_ _
  try simp only [Act.put, List.getElem_toArray, List.getElem_cons_succ, List.getElem_cons_zero]
  clear hHeld H13 g6V f6V g2V f2V
  have hz3 : SZ ((V.setCell ⟨g, 6, none⟩ (.bool true)).setCell ⟨g, 2, none⟩ (.int .u64 (N : Int))) base g { S with heard := true, ol := N } A := HZV.out
  have hs3 : SK w g A ((V.setCell ⟨g, 6, none⟩ (.bool true)).setCell ⟨g, 2, none⟩ (.int .u64 (N : Int))) A := HSV.out
  obtain ⟨W3, hW3⟩ : ∃ x, (V.setCell ⟨g, 6, none⟩ (.bool true)).setCell ⟨g, 2, none⟩ (.int .u64 (N : Int)) = x := ⟨_, rfl⟩
  rw [hW3] at hz3 hs3 ⊢
  have HZ3 := Lib.hid hz3
  have HS3 := Lib.hid hs3
  have e0 : W3.cell? ⟨g, 0, none⟩ = some (.bool S.srv) := hz3.row.at_ 0
  rw [HSRV.out] at e0
  have HBW := Lib.hid (Nat.le_trans hB hs3.size)
  clear hz3 hs3 hW3 HZV HSV HBV HG8
  go_upto_region 9 with (fail)
  clear hw1
  have hz4 := HZ3.out.drew
  have hs4 := HS3.out.trans (SK.bel (w := W3) (g := g) (A := A) (Below.refl _ _).drew)
  obtain ⟨U, hU⟩ : ∃ x, W3.drew = x := ⟨_, rfl⟩
  rw [hU] at hz4 hs4
  have H45 : W3.cell? ⟨g, 5, none⟩ = some (.slice A.ou.a A.ou.n A.ou.c) ∧ W3.cell? ⟨g, 4, none⟩ = some (.int .u64 (S.tl : Int)) := ⟨HZ3.out.row.at_ 5, HZ3.out.row.at_ 4⟩
  have HZU := Lib.hid hz4
  have HSU := Lib.hid hs4
  have HBU := Lib.hid (Nat.le_trans HBW.out (show W3.heap.size ≤ U.heap.size by rw [← hU]; exact Nat.le_refl _))
  have hlen := hz4.ou.n
  simp only at hlen
  have H45H := Lib.hid H45
  clear hz4 hs4 H45 e0
  refine wp_region_U 15 (S := fun y => y.cell? ⟨g, 5, none⟩ = some (.slice A.ou.a A.ou.n A.ou.c) ∧ y.cell? ⟨g, 4, none⟩ = some (.int .u64 (S.tl : Int))) (by kernel_rfl) H45H.out (fun hHeld => ?_)
  rw [hU] at hHeld ⊢
  clear H45H hU
  refine wpAnyU_take (i := 0) (v := .pointer (some ⟨g, 0, none⟩)) rfl (by kernel_rfl) (by kernel_rfl) (by kernel_rfl) (by kernel_rfl) rfl (by kernel_rfl) (fun _ _ _ h => h) (Or.inl ⟨by rfl, fun w h => by go_simp⟩) hHeld ?_
  try simp only [Act.put, List.getElem_toArray, List.getElem_cons_zero, List.setIfInBounds_toArray, List.set_cons_zero, List.set_cons_succ]
  refine wpAnyU_take (i := 1) (v := .pointer (some ⟨g, 0, none⟩)) rfl (by kernel_rfl) (by kernel_rfl) (by kernel_rfl) (by kernel_rfl) rfl (by kernel_rfl) (fun _ _ _ h => h) (Or.inl ⟨by rfl, fun w h => by go_simp⟩) hHeld ?_
  try simp only [Act.put, List.getElem_toArray, List.getElem_cons_succ, List.getElem_cons_zero, List.setIfInBounds_toArray, List.set_cons_zero, List.set_cons_succ]
  refine wpAnyU_take (i := 2) (v := .pointer (some ⟨g, 0, none⟩)) rfl (by kernel_rfl) (by kernel_rfl) (by kernel_rfl) (by kernel_rfl) rfl (by kernel_rfl) (fun _ _ _ h => h) (Or.inl ⟨by rfl, fun w h => by go_simp⟩) hHeld ?_
  try simp only [Act.put, List.getElem_toArray, List.getElem_cons_succ, List.getElem_cons_zero, List.setIfInBounds_toArray, List.set_cons_zero, List.set_cons_succ]
  refine wpAnyU_take (i := 3) (v := .pointer (some ⟨g, 5, none⟩)) rfl (by kernel_rfl) (by kernel_rfl) (by kernel_rfl) (by kernel_rfl) rfl (by kernel_rfl) (fun _ _ _ h => h) (Or.inl ⟨by rfl, fun w h => by go_simp⟩) hHeld ?_
  try simp only [Act.put, List.getElem_toArray, List.getElem_cons_succ, List.getElem_cons_zero, List.setIfInBounds_toArray, List.set_cons_zero, List.set_cons_succ]
  refine wpAnyU_take (i := 4) (v := .slice A.ou.a A.ou.n A.ou.c) rfl (by kernel_rfl) (by kernel_rfl) (by kernel_rfl) (by kernel_rfl) rfl (by kernel_rfl) (fun _ _ _ h => h) (Or.inl ⟨by rfl, fun w h => by go_simp⟩) hHeld ?_
  try simp only [Act.put, List.getElem_toArray, List.getElem_cons_succ, List.getElem_cons_zero, List.setIfInBounds_toArray, List.set_cons_zero, List.set_cons_succ]
  refine wpAnyU_take (i := 5) (v := .pointer (some ⟨g, 0, none⟩)) rfl (by kernel_rfl) (by kernel_rfl) (by kernel_rfl) (by kernel_rfl) rfl (by kernel_rfl) (fun _ _ _ h => h) (Or.inl ⟨by rfl, fun w h => by go_simp⟩) hHeld ?_
  try simp only [Act.put, List.getElem_toArray, List.getElem_cons_succ, List.getElem_cons_zero, List.setIfInBounds_toArray, List.set_cons_zero, List.set_cons_succ]
  refine wpAnyU_take (i := 6) (v := .pointer (some ⟨g, 0, none⟩)) rfl (by kernel_rfl) (by kernel_rfl) (by kernel_rfl) (by kernel_rfl) rfl (by kernel_rfl) (fun _ _ _ h => h) (Or.inl ⟨by rfl, fun w h => by go_simp⟩) hHeld ?_
  try simp only [Act.put, List.getElem_toArray, List.getElem_cons_succ, List.getElem_cons_zero, List.setIfInBounds_toArray, List.set_cons_zero, List.set_cons_succ]
  refine wpAnyU_take (i := 7) (v := .pointer (some ⟨g, 3, none⟩)) rfl (by kernel_rfl) (by kernel_rfl) (by kernel_rfl) (by kernel_rfl) rfl (by kernel_rfl) (fun _ _ _ h => h) (Or.inl ⟨by rfl, fun w h => by go_simp⟩) hHeld ?_
  try simp only [Act.put, List.getElem_toArray, List.getElem_cons_succ, List.getElem_cons_zero, List.setIfInBounds_toArray, List.set_cons_zero, List.set_cons_succ]
  refine wpAnyU_take (i := 8) (v := .pointer (some ⟨g, 4, none⟩)) rfl (by kernel_rfl) (by kernel_rfl) (by kernel_rfl) (by kernel_rfl) rfl (by kernel_rfl) (fun _ _ _ h => h) (Or.inl ⟨by rfl, fun w h => by go_simp⟩) hHeld ?_
  try simp only [Act.put, List.getElem_toArray, List.getElem_cons_succ, List.getElem_cons_zero, List.setIfInBounds_toArray, List.set_cons_zero, List.set_cons_succ]
  refine wpAnyU_take (i := 9) (v := .int .u64 (S.tl : Int)) rfl (by kernel_rfl) (by kernel_rfl) (by kernel_rfl) (by kernel_rfl) rfl (by kernel_rfl) (fun _ _ _ h => h) (Or.inl ⟨by rfl, fun w h => by go_simp⟩) hHeld ?_
  try simp only [Act.put, List.getElem_toArray, List.getElem_cons_succ, List.getElem_cons_zero, List.setIfInBounds_toArray, List.set_cons_zero, List.set_cons_succ]
  refine wpAnyU_take (i := 10) (v := .agg #[.int .u64 33, .int .u64 0, .int .u64 0, .slice none 0 0, .int .u8 0, .int .u8 0, .int .u64 0, .int .u64 0, .int .u64 0, .int .u64 0, .bool false, .int .u64 0, .slice none 0 0, .int .u64 (S.tl : Int), .int .u64 1, .slice none 0 0]) rfl (by kernel_rfl) (by kernel_rfl) (by kernel_rfl) (by kernel_rfl) rfl (by kernel_rfl) (fun _ _ _ h => h) (Or.inl ⟨by rfl, fun w h => by go_simp⟩) hHeld ?_
  try simp only [Act.put, List.getElem_toArray, List.getElem_cons_succ, List.getElem_cons_zero, List.setIfInBounds_toArray, List.set_cons_zero, List.set_cons_succ]
  refine wpAnyU_ready (rs := [11]) (by kernel_rfl) (by simp) (AllReadyU.cons rfl (fun K hK => ?_) AllReadyU.nil)
  go_simp
  have hmc : mgc (mNV 33 S.tl 1) ML0 = [.int .u64 33, .int .u64 0, .int .u64 0, .slice none 0 0, .int .u8 0, .int .u8 0, .int .u64 0, .int .u64 0, .int .u64 0, .int .u64 0, .bool false, .int .u64 0, .slice none 0 0, .int .u64 (S.tl : Int), .int .u64 1, .slice none 0 0] := by
    simp [mgc, mNV, ML0, SA0, SA.v, Go.Proofs.YtokgpnkooigamaaDoor.u64]
  have hrs := (OW_made U 0 31 16 (mgc (mNV 33 S.tl 1) ML0).toArray 1 (Nat.zero_le _) rfl (by unfold maxLen; omega) (by simpa using mgc_one (mNV 33 S.tl 1) ML0)).rs
  have hz5 := HZU.out.bel (below_alloc U (.cells (mgc (mNV 33 S.tl 1) ML0).toArray 31))
  have hs5 := HSU.out.trans (SK.bel (g := g) (A := A) (below_alloc U (.cells (mgc (mNV 33 S.tl 1) ML0).toArray 31)))
  have hB5 : base ≤ (U.alloc (.cells (mgc (mNV 33 S.tl 1) ML0).toArray 31)).heap.size := Nat.le_trans HBU.out (by simp)
  rw [hmc] at hrs hz5 hs5 hB5
  have HRS := Lib.hid hrs
  have HZ5 := Lib.hid hz5
  have HS5 := Lib.hid hs5
  have HMC := Lib.hid hmc
  refine hK.out _ _ ⟨hz5.row.at_ 5, hz5.row.at_ 4⟩ (fun hHeld => ?_)
  clear hK K hrs hz5 hs5 hmc
  try simp only [Act.put, List.getElem_toArray, List.getElem_cons_succ, List.getElem_cons_zero, List.setIfInBounds_toArray, List.set_cons_zero, List.set_cons_succ]
  generalize (World.alloc _ _) = w5 at *
  refine wpAnyU_ready (rs := [12]) (by kernel_rfl) (by simp) (AllReadyU.cons rfl (fun K hK => ?_) AllReadyU.nil)
  refine S_append_atZ tQ HZ5.out.ou.row HRS.out _ _ rfl rfl rfl rfl (by omega) (by unfold maxLen; omega) hB5 ?_
  intro a2 c2 w6 o6 g6 d6
  have hap := HZ5.out.app_out (mo_NV w5 base 33 S.tl 1 (by omega) HTL.out (by omega)) (by rw [HMC.out]; exact o6) g6 d6
  have qf := hap.1.fr 5
  have HA := Lib.hid hap
  refine hK.out _ _ ⟨HA.out.1.at_ 5, HA.out.1.at_ 4⟩ (fun hHeld => ?_)
  clear hK K hap o6 g6 d6
  try simp only [Act.put, List.getElem_toArray, List.getElem_cons_succ, List.getElem_cons_zero, List.setIfInBounds_toArray, List.set_cons_zero, List.set_cons_succ]
  refine wpAnyU_ready (rs := [13]) (by kernel_rfl) (by simp) (AllReadyU.cons rfl (fun K hK => ?_) AllReadyU.nil)
  go_simp
  refine hK.out _ _ hHeld (fun hHeld => ?_)
  clear hK K
  try simp only [Act.put, List.getElem_toArray, List.getElem_cons_succ, List.getElem_cons_zero, List.setIfInBounds_toArray, List.set_cons_zero, List.set_cons_succ]
  refine wpAnyU_ready (rs := [14]) (by kernel_rfl) (by simp) (AllReadyU.cons rfl (fun K hK => ?_) AllReadyU.nil)
  go_simp
  refine hK.out _ _ hHeld (fun hHeld => ?_)
  clear hK K
  try simp only [Act.put, List.getElem_toArray, List.getElem_cons_succ, List.getElem_cons_zero, List.setIfInBounds_toArray, List.set_cons_zero, List.set_cons_succ]
  have d5 := hHeld.1
  refine wpAnyU_ready (rs := [15]) (by kernel_rfl) (by simp) (AllReadyU.consT rfl (by kernel_rfl) (fun K hK => ?_) AllReadyU.nil)
  go_simp
  refine hK.out _ _ ?_
  clear hK K
  try simp only [Act.put, List.getElem_toArray, List.getElem_cons_succ, List.getElem_cons_zero, List.setIfInBounds_toArray, List.set_cons_zero, List.set_cons_succ]
  refine wpAnyU_done (by kernel_rfl) ?_ _
  try simp only [Act.put, List.getElem_toArray, List.getElem_cons_succ, List.getElem_cons_zero]
  go_wp2
  go_ret
  rw [HN.out]
  exact ⟨rfl, _, HA.out.2.1, HS5.out.trans HA.out.2.2⟩
set_option maxHeartbeats 8000000 in
theorem hear_s33 (h : SZ w base g S A) {m : MG} {s : ML} (hm : MO w base m s) (hK : KA w) (hl : S.their.length ≤ 1048576) (ho : S.out.length ≤ 1048576) (hB : base ≤ w.heap.size) (hr : rightM m = true) (hs : setupB S m = true) (hd : S.heard = false) (hkd : m.kind = 33) (hsrv : S.srv = false) (hv : m.ver = 1) :
    Calls Tryd.prog 20 #[.pointer (some ⟨g, 0, none⟩), .agg (mgc m s).toArray] w fun e w' => e = .returned (.int .u64 0) ∧ ∃ A', SZ w' base g { S with heard := true, ol := min m.n 1152921504606846976 } A' ∧ SK w g A w' A' := by
  have HHD := Lib.hid hd
  obtain ⟨Q, hQ⟩ : ∃ Q, m.vers.contains 1 = Q := ⟨_, rfl⟩
  have HQ := Lib.hid hQ
  have HSRV := Lib.hid hsrv
  have q32 : ((m.kind : Int) == 32) = false := by simp; omega
  have q33 : ((m.kind : Int) == 33) = true := by simp; omega
  have qv : ((m.ver : Int) != 1) = false := by simp; omega
  clear hQ hv hkd hsrv
  obtain ⟨h1, hm1, hR, hb⟩ := boxed h hm
  obtain ⟨k, hk⟩ : ∃ k, w.heap.size = k := ⟨_, rfl⟩
  obtain ⟨w1, hw1⟩ : ∃ x', w.alloc (.cells (mgc m s).toArray 31) = x' := ⟨_, rfl⟩
  rw [hw1, hk] at hR
  rw [hw1] at hb h1 hm1
  have c0 : w1.cell? ⟨k, 0, none⟩ = some (.int .u64 (m.kind : Int)) := hR.at_ 0
  have g0 : w1.cell? ⟨g, 0, none⟩ = some (.bool S.srv) := h1.row.at_ 0
  have hrt := tright_any w1 m s hm1.mr (hK.bel hb (Nat.le_refl _))
  obtain ⟨sb, hsb⟩ : ∃ b, setupB S m = b := ⟨_, rfl⟩
  rw [hr] at hrt
  have HB := Lib.hid hb
  have HR := Lib.hid hR
  have H1 := Lib.hid h1
  have HM1 := Lib.hid hm1
  have HSK1 := Lib.hid (SK.bel (g := g) (A := A) hb)
  have HRT := Lib.hid hrt
  have HSB := Lib.hid hsb
  have Hrg := Lib.hid hR.rng
  clear hb hR h h1 hm hm1 hK hrt
  unfold mgc u64 SA.v at hw1 ⊢
  go_enter Tryd.func20, Tryd.ntmps20
  go_upto_region 1 with (fail)
  go_cut [5] (fun s5 wx => s5 = .bool sb ∧ w1 = wx)
  case first => as_aux_lemma =>
    clear HRT HSK1 HM1 H1 HR HB Hrg hr hs hd HHD HQ q32 q33 qv HSRV
    obtain ⟨sv, hsv⟩ : ∃ b, S.srv = b := ⟨_, rfl⟩
    rw [hsv] at g0
    unfold setupB at hsb
    rw [hsv] at hsb
    clear hsv HSB
    by_cases k32 : m.kind = 32
    · have q32 : ((m.kind : Int) == 32) = true := by simp; omega
      have q33 : ((m.kind : Int) == 33) = false := by simp; omega
      cases sv with
      | true =>
        have e1 : sb = true := by rw [← hsb]; simp [k32]
        subst e1
        clear hsb k32
        go_wp2
        go_meet
        exact ⟨rfl, rfl⟩
      | false =>
        have e1 : sb = false := by rw [← hsb]; simp [k32]
        subst e1
        clear hsb k32
        go_wp2
        go_meet
        exact ⟨rfl, rfl⟩
    · have q32 : ((m.kind : Int) == 32) = false := by simp; omega
      by_cases k33 : m.kind = 33
      · have q33 : ((m.kind : Int) == 33) = true := by simp; omega
        cases sv with
        | true =>
          have e1 : sb = false := by rw [← hsb]; simp [k33]
          subst e1
          clear hsb k32 k33
          go_wp2
          go_meet
          exact ⟨rfl, rfl⟩
        | false =>
          have e1 : sb = true := by rw [← hsb]; simp [k33]
          subst e1
          clear hsb k32 k33
          go_wp2
          go_meet
          exact ⟨rfl, rfl⟩
      · have q33 : ((m.kind : Int) == 33) = false := by simp; omega
        have e1 : sb = false := by rw [← hsb]; simp [k32, k33]
        subst e1
        clear hsb k32 k33
        go_wp2
        go_meet
        exact ⟨rfl, rfl⟩
  case rest =>
  obtain ⟨rfl, rfl⟩ := hcut
  obtain rfl : sb = true := by rw [← HSB.out]; exact hs
  clear hs hd hr hsb
  go_upto_region 4 with (first
    | (refine L_loadG 31 _ rfl (by rfl) _ _ rfl _ _ Hrg.out Tryd.underlying31 rfl iMsg ?_)
    | (go_at_call 23; refine HRT.out.mono ?_; rintro y w2 ⟨rfl, B2⟩; have HB2 := Lib.hid B2; have g6 : w2.cell? ⟨g, 6, none⟩ = some (.bool false) := (by have := (H1.out.bel B2).row.at_ 6; rw [HHD.out] at this; exact this); clear B2))
  have hr2 := HR.out.bel HB2.out
  have c0b : w2.cell? ⟨k, 0, none⟩ = some (.int .u64 (m.kind : Int)) := hr2.at_ 0
  have c12 : w2.cell? ⟨k, 14, none⟩ = some (.int .u64 (m.ver : Int)) := hr2.at_ 14
  have c13 : w2.cell? ⟨k, 15, none⟩ = some (.slice s.vs.a s.vs.n s.vs.c) := hr2.at_ 15
  have c11 : w2.cell? ⟨k, 13, none⟩ = some (.int .u64 (m.n : Int)) := hr2.at_ 13
  have HCT := Lib.hid (ucontains_any w2 (HM1.out.bel HB2.out (Nat.le_refl _)).vs.rs (HM1.out.bel HB2.out (Nat.le_refl _)).l3 1)
  rw [HQ.out] at HCT
  clear g6 c0 g0
  go_upto_region 7 with (first | (go_at_call 31; refine HCT.out.mono ?_; rintro y w3 ⟨rfl, rfl⟩) | fail)
  have hz2 := H1.out.bel HB2.out
  obtain ⟨V, hV⟩ : ∃ V, w2.drew = V := ⟨_, rfl⟩
  have hzV : SZ V base g S A := by rw [← hV]; exact hz2.drew
  have hsV : SK w g A V A := by rw [← hV]; exact (HSK1.out.trans (SK.bel HB2.out)).trans (SK.bel (Below.refl _ _).drew)
  have hBV : base ≤ V.heap.size := Nat.le_trans hB hsV.size
  have g6V : V.cell? ⟨g, 6, none⟩ = some (.bool S.heard) := hzV.row.at_ 6
  have f6V := hzV.row.fr 6
  have g2V : V.cell? ⟨g, 2, none⟩ = some (.int .u64 (S.ol : Int)) := hzV.row.at_ 2
  have f2V := hzV.row.fr 2
  obtain ⟨N, hN⟩ : ∃ N, min m.n 1152921504606846976 = N := ⟨_, rfl⟩
  have hrV : CR V k 31 (mgc m s) := by rw [← hV]; exact hr2
  have hgk : g ≠ k := fun he => by
    have h5 := hzV.row
    have h6 := hrV
    rw [← he] at h6
    unfold CR at h5 h6
    rw [h6] at h5
    injection h5 with h5
    injection h5 with h7 h8
    cases h8
  have hmn : ∀ (ts : Array TypeId) (t : TypeId) (W : World), (Builtin.min_ ts t #[.int .u64 (m.n : Int), .int .u64 1152921504606846976]).run Tryd.prog W = .ok (.int .u64 (N : Int)) W := fun ts t W => by rw [← hN]; exact min2 W ts t m.n 1152921504606846976
  have c11V : w2.cell? ⟨k, 13, none⟩ = some (.int .u64 (m.n : Int)) := c11
  have h6 := hzV.set_heard true
  have h2 := h6.1.set_ol N
  have g8 := h2.1.row.at_ 0
  have HN := Lib.hid hN
  have HZV := Lib.hid h2.1
  have HSV := Lib.hid (hsV.trans (h6.2.trans h2.2))
  have HBV := Lib.hid hBV
  have HG8 := Lib.hid g8
  have HC11 := Lib.hid c11V
  clear hr2 hz2 hzV hsV hBV h6 h2 g8 hN c11V c11 c12 c13 c0b HCT HRT HSK1 HM1 H1 Hrg HSB HB HB2 HR
  have h13 : ∀ (o : Nat) (v : Value) , (V.setCell ⟨g, o, none⟩ v).cell? ⟨k, 13, none⟩ = some (.int .u64 (m.n : Int)) := fun o v => (hrV.keep (Below.heap_setCell _ _ _ _ (fun he => hgk he.symm))).at_ 13
  have H13 := Lib.hid h13
  clear h13 hrV hgk
  refine wp_region_U 11 (S := fun y => y.cell? ⟨k, 13, none⟩ = some (.int .u64 (m.n : Int))) (by kernel_rfl) HC11.out (fun hHeld => ?_)
  rw [hV] at hHeld ⊢
  clear HC11 hV
  refine wpAnyU_take (i := 0) (v := .pointer (some ⟨g, 0, none⟩)) rfl (by kernel_rfl) (by kernel_rfl) (by kernel_rfl) (by kernel_rfl) rfl (by kernel_rfl) (fun _ _ _ h => h) (Or.inl ⟨by rfl, fun w h => by go_simp⟩) hHeld ?_
  try simp only [Act.put, List.getElem_toArray, List.getElem_cons_zero, List.setIfInBounds_toArray, List.set_cons_zero, List.set_cons_succ]
  refine wpAnyU_take (i := 1) (v := .pointer (some ⟨g, 0, none⟩)) rfl (by kernel_rfl) (by kernel_rfl) (by kernel_rfl) (by kernel_rfl) rfl (by kernel_rfl) (fun _ _ _ h => h) (Or.inl ⟨by rfl, fun w h => by go_simp⟩) hHeld ?_
  try simp only [Act.put, List.getElem_toArray, List.getElem_cons_succ, List.getElem_cons_zero, List.setIfInBounds_toArray, List.set_cons_zero, List.set_cons_succ]
  refine wpAnyU_take (i := 2) (v := .pointer (some ⟨k, 13, none⟩)) rfl (by kernel_rfl) (by kernel_rfl) (by kernel_rfl) (by kernel_rfl) rfl (by kernel_rfl) (fun _ _ _ h => h) (Or.inl ⟨by rfl, fun w h => by go_simp⟩) hHeld ?_
  try simp only [Act.put, List.getElem_toArray, List.getElem_cons_succ, List.getElem_cons_zero, List.setIfInBounds_toArray, List.set_cons_zero, List.set_cons_succ]
  refine wpAnyU_take (i := 3) (v := .int .u64 (m.n : Int)) rfl (by kernel_rfl) (by kernel_rfl) (by kernel_rfl) (by kernel_rfl) rfl (by kernel_rfl) (fun _ _ _ h => h) (Or.inl ⟨by rfl, fun w h => by go_simp⟩) hHeld ?_
  try simp only [Act.put, List.getElem_toArray, List.getElem_cons_succ, List.getElem_cons_zero, List.setIfInBounds_toArray, List.set_cons_zero, List.set_cons_succ]
  refine wpAnyU_take (i := 4) (v := .int .u64 (N : Int)) rfl (by kernel_rfl) (by kernel_rfl) (by kernel_rfl) (by kernel_rfl) rfl (by kernel_rfl) (fun _ _ _ h => h) (Or.inl ⟨by rfl, fun w h => by go_simp⟩) hHeld ?_
  try simp only [Act.put, List.getElem_toArray, List.getElem_cons_succ, List.getElem_cons_zero, List.setIfInBounds_toArray, List.set_cons_zero, List.set_cons_succ]
  refine wpAnyU_take (i := 5) (v := .pointer (some ⟨g, 0, none⟩)) rfl (by kernel_rfl) (by kernel_rfl) (by kernel_rfl) (by kernel_rfl) rfl (by kernel_rfl) (fun _ _ _ h => h) (Or.inl ⟨by rfl, fun w h => by go_simp⟩) hHeld ?_
  try simp only [Act.put, List.getElem_toArray, List.getElem_cons_succ, List.getElem_cons_zero, List.setIfInBounds_toArray, List.set_cons_zero, List.set_cons_succ]
  refine wpAnyU_take (i := 6) (v := .pointer (some ⟨g, 6, none⟩)) rfl (by kernel_rfl) (by kernel_rfl) (by kernel_rfl) (by kernel_rfl) rfl (by kernel_rfl) (fun _ _ _ h => h) (Or.inl ⟨by rfl, fun w h => by go_simp⟩) hHeld ?_
  try simp only [Act.put, List.getElem_toArray, List.getElem_cons_succ, List.getElem_cons_zero, List.setIfInBounds_toArray, List.set_cons_zero, List.set_cons_succ]
  clear hmn
  refine wpAnyU_ready (rs := [7]) (by kernel_rfl) (by simp) (AllReadyU.cons rfl (fun K hK => ?_) AllReadyU.nil)
  go_simp
  refine hK.out _ _ (H13.out 6 _) (fun hHeld => ?_)
  clear hK K
  try simp only [Act.put, List.getElem_toArray, List.getElem_cons_succ, List.getElem_cons_zero, List.setIfInBounds_toArray, List.set_cons_zero, List.set_cons_succ]
  refine wpAnyU_ready (rs := [8]) (by kernel_rfl) (by simp) (AllReadyU.cons rfl (fun K hK => ?_) AllReadyU.nil)
  go_simp
  refine hK.out _ _ hHeld (fun hHeld => ?_)
  clear hK K
  try simp only [Act.put, List.getElem_toArray, List.getElem_cons_succ, List.getElem_cons_zero, List.setIfInBounds_toArray, List.set_cons_zero, List.set_cons_succ]
  refine wpAnyU_ready (rs := [9]) (by kernel_rfl) (by simp) (AllReadyU.cons rfl (fun K hK => ?_) AllReadyU.nil)
  go_simp
  refine hK.out _ _ hHeld (fun hHeld => ?_)
  clear hK K
  try simp only [Act.put, List.getElem_toArray, List.getElem_cons_succ, List.getElem_cons_zero, List.setIfInBounds_toArray, List.set_cons_zero, List.set_cons_succ]
  refine wpAnyU_take (i := 10) (v := .pointer (some ⟨g, 2, none⟩)) rfl (by kernel_rfl) (by kernel_rfl) (by kernel_rfl) (by kernel_rfl) rfl (by kernel_rfl) (fun _ _ _ h => h) (Or.inl ⟨by rfl, fun w h => by go_simp⟩) hHeld ?_
  try simp only [Act.put, List.getElem_toArray, List.getElem_cons_succ, List.getElem_cons_zero, List.setIfInBounds_toArray, List.set_cons_zero, List.set_cons_succ]
  refine wpAnyU_ready (rs := [11]) (by kernel_rfl) (by simp) (AllReadyU.consT rfl (by kernel_rfl) (fun K hK => ?_) AllReadyU.nil)
  go_simp
  refine hK.out _ _ ?_
  clear hK K
  try simp only [Act.put, List.getElem_toArray, List.getElem_cons_succ, List.getElem_cons_zero, List.setIfInBounds_toArray, List.set_cons_zero, List.set_cons_succ]
  refine wpAnyU_done (by kernel_rfl) ?_ _
  try simp only [Act.put, List.getElem_toArray, List.getElem_cons_succ, List.getElem_cons_zero]
  clear hHeld H13 g6V f6V g2V f2V
  have hz3 : SZ ((V.setCell ⟨g, 6, none⟩ (.bool true)).setCell ⟨g, 2, none⟩ (.int .u64 (N : Int))) base g { S with heard := true, ol := N } A := HZV.out
  have hs3 : SK w g A ((V.setCell ⟨g, 6, none⟩ (.bool true)).setCell ⟨g, 2, none⟩ (.int .u64 (N : Int))) A := HSV.out
  obtain ⟨W3, hW3⟩ : ∃ x, (V.setCell ⟨g, 6, none⟩ (.bool true)).setCell ⟨g, 2, none⟩ (.int .u64 (N : Int)) = x := ⟨_, rfl⟩
  rw [hW3] at hz3 hs3 ⊢
  have HZ3 := Lib.hid hz3
  have HS3 := Lib.hid hs3
  have e0 : W3.cell? ⟨g, 0, none⟩ = some (.bool S.srv) := hz3.row.at_ 0
  rw [HSRV.out] at e0
  have HBW := Lib.hid (Nat.le_trans hB hs3.size)
  clear hz3 hs3 hW3 HZV HSV HBV HG8
  go_wp2
  go_ret
  rw [HN.out]
  exact ⟨rfl, _, HZ3.out, HS3.out⟩
end
end Go.Proofs.YtokgpnkooigamaaDoor
