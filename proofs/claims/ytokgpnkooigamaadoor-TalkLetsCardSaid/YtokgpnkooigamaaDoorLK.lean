/- talk's hear of what ends a request. -/
import Derived.Test.YtokgpnkooigamaaDoorTW
set_option maxRecDepth 100000
set_option linter.unusedVariables false
namespace Go.Proofs.YtokgpnkooigamaaDoor
open Go.RowKit
section
variable {w : World} {base g : Nat} {S : SS} {A : SL}
set_option maxHeartbeats 8000000 in
theorem hear_end_no (h : SZ w base g S A) {m : MG} {s : ML} (hm : MO w base m s) (hK : KA w) (hl : S.their.length ≤ 1048576) (ho : S.out.length ≤ 1048576) (hB : base ≤ w.heap.size) (hr : rightM m = true) (hs : setupB S m = false) (hd : S.heard = true) (hq : requestS m.kind = false) (hrp : replyS m.kind = (0, false)) (K : Nat) (hen : endS m.kind = K) (hK0 : K ≠ 0) (hfd : findS S.their m.id K = none) :
    Calls Tryd.prog 20 #[.pointer (some ⟨g, 0, none⟩), .agg (mgc m s).toArray] w fun e w' => e = .returned (.int .u64 3) ∧ Below w.heap.size w w' := by
  have HHD := Lib.hid hd
  have HRQ := Lib.hid hq
  have HRPL := Lib.hid hrp
  have HEND := Lib.hid hen
  have HFD := Lib.hid hfd
  have hKn : ((K : Int) != 0) = true := by simp; omega
  clear hq hrp hK0 hen
  obtain ⟨h1, hm1, hR, hb⟩ := boxed h hm
  obtain ⟨k, hk⟩ : ∃ k, w.heap.size = k := ⟨_, rfl⟩
  obtain ⟨w1, hw1⟩ : ∃ x', w.alloc (.cells (mgc m s).toArray 31) = x' := ⟨_, rfl⟩
  rw [hw1, hk] at hR
  rw [hw1] at hb h1 hm1
  have c0 : w1.cell? ⟨k, 0, none⟩ = some (.int .u64 (m.kind : Int)) := hR.at_ 0
  have g0 : w1.cell? ⟨g, 0, none⟩ = some (.bool S.srv) := h1.row.at_ 0
  have hrt := tright_any w1 m s hm1.mr (hK.bel hb (Nat.le_refl _))
  obtain ⟨sb, hsb⟩ : ∃ b, setupB S m = b := ⟨_, rfl⟩
  rw [hr] at hrt
  have HB := Lib.hid hb
  have HR := Lib.hid hR
  have H1 := Lib.hid h1
  have HM1 := Lib.hid hm1
  have HSK1 := Lib.hid (SK.bel (g := g) (A := A) hb)
  have HRT := Lib.hid hrt
  have HSB := Lib.hid hsb
  have Hrg := Lib.hid hR.rng
  clear hb hR h h1 hm hm1 hK hrt
  unfold mgc u64 SA.v at hw1 ⊢
  go_enter Tryd.func20, Tryd.ntmps20
  go_upto_region 1 with (fail)
  go_cut [5] (fun s5 wx => s5 = .bool sb ∧ w1 = wx)
  case first => as_aux_lemma =>
    clear HRT HSK1 HM1 H1 HR HB Hrg hr hs hd HHD HRQ HRPL HEND HFD hKn hfd
    obtain ⟨sv, hsv⟩ : ∃ b, S.srv = b := ⟨_, rfl⟩
    rw [hsv] at g0
    unfold setupB at hsb
    rw [hsv] at hsb
    clear hsv HSB
    by_cases k32 : m.kind = 32
    · have q32 : ((m.kind : Int) == 32) = true := by simp; omega
      have q33 : ((m.kind : Int) == 33) = false := by simp; omega
      cases sv with
      | true =>
        have e1 : sb = true := by rw [← hsb]; simp [k32]
        subst e1
        clear hsb k32
        go_wp2
        go_meet
        exact ⟨rfl, rfl⟩
      | false =>
        have e1 : sb = false := by rw [← hsb]; simp [k32]
        subst e1
        clear hsb k32
        go_wp2
        go_meet
        exact ⟨rfl, rfl⟩
    · have q32 : ((m.kind : Int) == 32) = false := by simp; omega
      by_cases k33 : m.kind = 33
      · have q33 : ((m.kind : Int) == 33) = true := by simp; omega
        cases sv with
        | true =>
          have e1 : sb = false := by rw [← hsb]; simp [k33]
          subst e1
          clear hsb k32 k33
          go_wp2
          go_meet
          exact ⟨rfl, rfl⟩
        | false =>
          have e1 : sb = true := by rw [← hsb]; simp [k33]
          subst e1
          clear hsb k32 k33
          go_wp2
          go_meet
          exact ⟨rfl, rfl⟩
      · have q33 : ((m.kind : Int) == 33) = false := by simp; omega
        have e1 : sb = false := by rw [← hsb]; simp [k32, k33]
        subst e1
        clear hsb k32 k33
        go_wp2
        go_meet
        exact ⟨rfl, rfl⟩
  case rest =>
  obtain ⟨rfl, rfl⟩ := hcut
  obtain rfl : sb = false := by rw [← HSB.out]; exact hs
  clear hs hd hr hsb
  go_upto_region 4 with (first
    | (refine L_loadG 31 _ rfl (by rfl) _ _ rfl _ _ Hrg.out Tryd.underlying31 rfl iMsg ?_)
    | (go_at_call 23; refine HRT.out.mono ?_; rintro y w2 ⟨rfl, B2⟩; have HB2 := Lib.hid B2; have g6 : w2.cell? ⟨g, 6, none⟩ = some (.bool true) := (by have := (H1.out.bel B2).row.at_ 6; rw [HHD.out] at this; exact this); clear B2))
  have hrq := request_any w2 m.kind
  rw [HRQ.out] at hrq
  have HQ2 := Lib.hid hrq
  have hrp2 := reply_any w2 m.kind
  rw [HRPL.out] at hrp2
  have HP2 := Lib.hid hrp2
  have hr2 := HR.out.bel HB2.out
  have c0b : w2.cell? ⟨k, 0, none⟩ = some (.int .u64 (m.kind : Int)) := hr2.at_ 0
  have HR2 := Lib.hid hr2
  clear hrq hrp2 hr2 g6 c0 g0
  have hen2 := end_any w2 m.kind
  rw [HEND.out] at hen2
  have HE2 := Lib.hid hen2
  clear hen2
  go_upto_region 25 with (first
    | (go_at_call 24; refine HQ2.out.mono ?_; rintro y w3 ⟨rfl, rfl⟩)
    | (go_at_call 33; refine HP2.out.mono ?_; rintro y w3 ⟨rfl, rfl⟩)
    | (go_at_call 34; refine HE2.out.mono ?_; rintro y w3 ⟨rfl, rfl⟩))
  obtain ⟨V, hV⟩ : ∃ V, w2.drew = V := ⟨_, rfl⟩
  have bV : Below w2.heap.size w2 V := by rw [← hV]; exact (Below.refl _ _).drew
  have hzV := (H1.out.bel HB2.out).bel bV
  have hrV := HR2.out.bel bV
  have hsV := (HSK1.out.trans (SK.bel (g := g) (A := A) HB2.out)).trans (SK.bel (g := g) (A := A) bV)
  have HZV := Lib.hid hzV
  have HRV := Lib.hid hrV
  have HSV := Lib.hid hsV
  have HBV := Lib.hid (btr (btr HB.out HB2.out) bV)
  have HC2 := Lib.hid (show w2.cell? ⟨k, 1, none⟩ = some (.int .u64 (m.id : Int)) from HR2.out.at_ 1)
  have hown : A.th.n ≤ 1099511627776 := by have := hzV.th.n; omega
  have HFN := Lib.hid (find_no hzV.th (hzV.row.at_ 3) hown m.id K hfd)
  clear HE2 bV hzV hrV hsV c0b HQ2 HP2 HRT HSK1 HM1 H1 HR Hrg HSB HB2 hw1
  refine wp_region_held_drew (S := fun x => x.cell? ⟨k, 1, none⟩ = some (.int .u64 (m.id : Int))) (by kernel_rfl) HC2.out (fun hHeld => ?_)
  rw [hV] at hHeld ⊢
  clear hV HC2
  refine wpAnyH_take (i := 0) (v := .pointer (some ⟨g, 0, none⟩)) rfl (by kernel_rfl) (by kernel_rfl) (by kernel_rfl) (fun _ _ _ h => h) (Or.inl ⟨by rfl, fun w h => by go_simp⟩) hHeld ?_
  try simp only [Act.put, List.getElem_toArray, List.getElem_cons_zero, List.setIfInBounds_toArray, List.set_cons_zero, List.set_cons_succ]
  refine wpAnyH_take (i := 1) (v := .pointer (some ⟨g, 0, none⟩)) rfl (by kernel_rfl) (by kernel_rfl) (by kernel_rfl) (fun _ _ _ h => h) (Or.inl ⟨by rfl, fun w h => by go_simp⟩) hHeld ?_
  try simp only [Act.put, List.getElem_toArray, List.getElem_cons_succ, List.getElem_cons_zero, List.setIfInBounds_toArray, List.set_cons_zero, List.set_cons_succ]
  refine wpAnyH_take (i := 2) (v := .pointer (some ⟨g, 3, none⟩)) rfl (by kernel_rfl) (by kernel_rfl) (by kernel_rfl) (fun _ _ _ h => h) (Or.inl ⟨by rfl, fun w h => by go_simp⟩) hHeld ?_
  try simp only [Act.put, List.getElem_toArray, List.getElem_cons_succ, List.getElem_cons_zero, List.setIfInBounds_toArray, List.set_cons_zero, List.set_cons_succ]
  refine wpAnyH_take (i := 3) (v := .pointer (some ⟨k, 1, none⟩)) rfl (by kernel_rfl) (by kernel_rfl) (by kernel_rfl) (fun _ _ _ h => h) (Or.inl ⟨by rfl, fun w h => by go_simp⟩) hHeld ?_
  try simp only [Act.put, List.getElem_toArray, List.getElem_cons_succ, List.getElem_cons_zero, List.setIfInBounds_toArray, List.set_cons_zero, List.set_cons_succ]
  refine wpAnyH_take (i := 4) (v := .int .u64 (m.id : Int)) rfl (by kernel_rfl) (by kernel_rfl) (by kernel_rfl) (fun _ _ _ h => h) (Or.inl ⟨by rfl, fun w h => by go_simp⟩) hHeld ?_
  try simp only [Act.put, List.getElem_toArray, List.getElem_cons_succ, List.getElem_cons_zero, List.setIfInBounds_toArray, List.set_cons_zero, List.set_cons_succ]
  refine wpAnyH_take (i := 5) (v := .int .u64 (K : Int)) rfl (by kernel_rfl) (by kernel_rfl) (by kernel_rfl) (fun _ _ _ h => h) (Or.inl ⟨by rfl, fun w h => by go_simp⟩) hHeld ?_
  try simp only [Act.put, List.getElem_toArray, List.getElem_cons_succ, List.getElem_cons_zero, List.setIfInBounds_toArray, List.set_cons_zero, List.set_cons_succ]
  refine wpAnyH_ready (rs := [6]) (by kernel_rfl) (by simp) (AllReadyH.cons rfl (fun K hK => ?_) AllReadyH.nil)
  go_simp
  go_at_call 29
  refine HFN.out.mono ?_
  rintro y w3 ⟨rfl, rfl⟩
  refine hK.out _ _ hHeld (fun hHeld => ?_)
  clear hK
  try simp only [Act.put, List.getElem_toArray, List.getElem_cons_succ, List.getElem_cons_zero, List.setIfInBounds_toArray, List.set_cons_zero, List.set_cons_succ]
  refine wpAnyH_take (i := 7) (v := .pointer none) rfl (by kernel_rfl) (by kernel_rfl) (by kernel_rfl) (fun _ _ _ h => h) (Or.inl ⟨by rfl, fun w h => by go_simp⟩) hHeld ?_
  try simp only [Act.put, List.getElem_toArray, List.getElem_cons_succ, List.getElem_cons_zero, List.setIfInBounds_toArray, List.set_cons_zero, List.set_cons_succ]
  refine wpAnyH_done (by kernel_rfl) ?_ _
  try simp only [Act.put, List.getElem_toArray, List.getElem_cons_succ, List.getElem_cons_zero]
  go_wp2
  go_ret
  exact ⟨rfl, HBV.out⟩
set_option maxHeartbeats 8000000 in
theorem hear_end_yes (h : SZ w base g S A) {m : MG} {s : ML} (hm : MO w base m s) (hK : KA w) (hl : S.their.length ≤ 1048576) (ho : S.out.length ≤ 1048576) (hB : base ≤ w.heap.size) (hr : rightM m = true) (hs : setupB S m = false) (hd : S.heard = true) (hq : requestS m.kind = false) (hrp : replyS m.kind = (0, false)) (K : Nat) (hen : endS m.kind = K) (hK0 : K ≠ 0) (i : Nat) (x : AG) (hfd : findS S.their m.id K = some i) (hx : S.their[i]? = some x) :
    Calls Tryd.prog 20 #[.pointer (some ⟨g, 0, none⟩), .agg (mgc m s).toArray] w fun e w' => e = .returned (.int .u64 0) ∧ ∃ A', SZ w' base g (overS S i) A' ∧ SK w g A w' A' := by
  have HHD := Lib.hid hd
  have HRQ := Lib.hid hq
  have HRPL := Lib.hid hrp
  have HEND := Lib.hid hen
  have HFD := Lib.hid hfd
  have hKn : ((K : Int) != 0) = true := by simp; omega
  clear hq hrp hK0 hen
  obtain ⟨h1, hm1, hR, hb⟩ := boxed h hm
  obtain ⟨k, hk⟩ : ∃ k, w.heap.size = k := ⟨_, rfl⟩
  obtain ⟨w1, hw1⟩ : ∃ x', w.alloc (.cells (mgc m s).toArray 31) = x' := ⟨_, rfl⟩
  rw [hw1, hk] at hR
  rw [hw1] at hb h1 hm1
  have c0 : w1.cell? ⟨k, 0, none⟩ = some (.int .u64 (m.kind : Int)) := hR.at_ 0
  have g0 : w1.cell? ⟨g, 0, none⟩ = some (.bool S.srv) := h1.row.at_ 0
  have hrt := tright_any w1 m s hm1.mr (hK.bel hb (Nat.le_refl _))
  obtain ⟨sb, hsb⟩ : ∃ b, setupB S m = b := ⟨_, rfl⟩
  rw [hr] at hrt
  have HB := Lib.hid hb
  have HR := Lib.hid hR
  have H1 := Lib.hid h1
  have HM1 := Lib.hid hm1
  have HSK1 := Lib.hid (SK.bel (g := g) (A := A) hb)
  have HRT := Lib.hid hrt
  have HSB := Lib.hid hsb
  have Hrg := Lib.hid hR.rng
  clear hb hR h h1 hm hm1 hK hrt
  unfold mgc u64 SA.v at hw1 ⊢
  go_enter Tryd.func20, Tryd.ntmps20
  go_upto_region 1 with (fail)
  go_cut [5] (fun s5 wx => s5 = .bool sb ∧ w1 = wx)
  case first => as_aux_lemma =>
    clear HRT HSK1 HM1 H1 HR HB Hrg hr hs hd HHD HRQ HRPL HEND HFD hKn hfd hx
    obtain ⟨sv, hsv⟩ : ∃ b, S.srv = b := ⟨_, rfl⟩
    rw [hsv] at g0
    unfold setupB at hsb
    rw [hsv] at hsb
    clear hsv HSB
    by_cases k32 : m.kind = 32
    · have q32 : ((m.kind : Int) == 32) = true := by simp; omega
      have q33 : ((m.kind : Int) == 33) = false := by simp; omega
      cases sv with
      | true =>
        have e1 : sb = true := by rw [← hsb]; simp [k32]
        subst e1
        clear hsb k32
        go_wp2
        go_meet
        exact ⟨rfl, rfl⟩
      | false =>
        have e1 : sb = false := by rw [← hsb]; simp [k32]
        subst e1
        clear hsb k32
        go_wp2
        go_meet
        exact ⟨rfl, rfl⟩
    · have q32 : ((m.kind : Int) == 32) = false := by simp; omega
      by_cases k33 : m.kind = 33
      · have q33 : ((m.kind : Int) == 33) = true := by simp; omega
        cases sv with
        | true =>
          have e1 : sb = false := by rw [← hsb]; simp [k33]
          subst e1
          clear hsb k32 k33
          go_wp2
          go_meet
          exact ⟨rfl, rfl⟩
        | false =>
          have e1 : sb = true := by rw [← hsb]; simp [k33]
          subst e1
          clear hsb k32 k33
          go_wp2
          go_meet
          exact ⟨rfl, rfl⟩
      · have q33 : ((m.kind : Int) == 33) = false := by simp; omega
        have e1 : sb = false := by rw [← hsb]; simp [k32, k33]
        subst e1
        clear hsb k32 k33
        go_wp2
        go_meet
        exact ⟨rfl, rfl⟩
  case rest =>
  obtain ⟨rfl, rfl⟩ := hcut
  obtain rfl : sb = false := by rw [← HSB.out]; exact hs
  clear hs hd hr hsb
  go_upto_region 4 with (first
    | (refine L_loadG 31 _ rfl (by rfl) _ _ rfl _ _ Hrg.out Tryd.underlying31 rfl iMsg ?_)
    | (go_at_call 23; refine HRT.out.mono ?_; rintro y w2 ⟨rfl, B2⟩; have HB2 := Lib.hid B2; have g6 : w2.cell? ⟨g, 6, none⟩ = some (.bool true) := (by have := (H1.out.bel B2).row.at_ 6; rw [HHD.out] at this; exact this); clear B2))
  have hrq := request_any w2 m.kind
  rw [HRQ.out] at hrq
  have HQ2 := Lib.hid hrq
  have hrp2 := reply_any w2 m.kind
  rw [HRPL.out] at hrp2
  have HP2 := Lib.hid hrp2
  have hr2 := HR.out.bel HB2.out
  have c0b : w2.cell? ⟨k, 0, none⟩ = some (.int .u64 (m.kind : Int)) := hr2.at_ 0
  have HR2 := Lib.hid hr2
  clear hrq hrp2 hr2 g6 c0 g0
  have hen2 := end_any w2 m.kind
  rw [HEND.out] at hen2
  have HE2 := Lib.hid hen2
  clear hen2
  go_upto_region 25 with (first
    | (go_at_call 24; refine HQ2.out.mono ?_; rintro y w3 ⟨rfl, rfl⟩)
    | (go_at_call 33; refine HP2.out.mono ?_; rintro y w3 ⟨rfl, rfl⟩)
    | (go_at_call 34; refine HE2.out.mono ?_; rintro y w3 ⟨rfl, rfl⟩))
  obtain ⟨V, hV⟩ : ∃ V, w2.drew = V := ⟨_, rfl⟩
  have bV : Below w2.heap.size w2 V := by rw [← hV]; exact (Below.refl _ _).drew
  have hzV := (H1.out.bel HB2.out).bel bV
  have hrV := HR2.out.bel bV
  have hsV := (HSK1.out.trans (SK.bel (g := g) (A := A) HB2.out)).trans (SK.bel (g := g) (A := A) bV)
  have HZV := Lib.hid hzV
  have HRV := Lib.hid hrV
  have HSV := Lib.hid hsV
  have HBV := Lib.hid (btr (btr HB.out HB2.out) bV)
  have HC2 := Lib.hid (show w2.cell? ⟨k, 1, none⟩ = some (.int .u64 (m.id : Int)) from HR2.out.at_ 1)
  have hown : A.th.n ≤ 1099511627776 := by have := hzV.th.n; omega
  obtain ⟨b, hb, _⟩ := hzV.th.blk hx
  have HFN0 := find_yes hzV.th (hzV.row.at_ 3) hown m.id K i b hfd hb
  have hov := over_any hzV hx hb ho (Nat.le_trans hB hsV.size)
  obtain ⟨J, hJ⟩ : ∃ J, i * 17 = J := ⟨_, rfl⟩
  rw [hJ] at HFN0 hov
  have HFN := Lib.hid HFN0
  have HOV := Lib.hid hov
  clear HFN0 hov hJ hx
  clear HE2 bV hzV hrV hsV c0b HQ2 HP2 HRT HSK1 HM1 H1 HR Hrg HSB HB2 hw1
  refine wp_region_held_drew (S := fun x => x.cell? ⟨k, 1, none⟩ = some (.int .u64 (m.id : Int))) (by kernel_rfl) HC2.out (fun hHeld => ?_)
  rw [hV] at hHeld ⊢
  clear hV HC2
  refine wpAnyH_take (i := 0) (v := .pointer (some ⟨g, 0, none⟩)) rfl (by kernel_rfl) (by kernel_rfl) (by kernel_rfl) (fun _ _ _ h => h) (Or.inl ⟨by rfl, fun w h => by go_simp⟩) hHeld ?_
  try simp only [Act.put, List.getElem_toArray, List.getElem_cons_zero, List.setIfInBounds_toArray, List.set_cons_zero, List.set_cons_succ]
  refine wpAnyH_take (i := 1) (v := .pointer (some ⟨g, 0, none⟩)) rfl (by kernel_rfl) (by kernel_rfl) (by kernel_rfl) (fun _ _ _ h => h) (Or.inl ⟨by rfl, fun w h => by go_simp⟩) hHeld ?_
  try simp only [Act.put, List.getElem_toArray, List.getElem_cons_succ, List.getElem_cons_zero, List.setIfInBounds_toArray, List.set_cons_zero, List.set_cons_succ]
  refine wpAnyH_take (i := 2) (v := .pointer (some ⟨g, 3, none⟩)) rfl (by kernel_rfl) (by kernel_rfl) (by kernel_rfl) (fun _ _ _ h => h) (Or.inl ⟨by rfl, fun w h => by go_simp⟩) hHeld ?_
  try simp only [Act.put, List.getElem_toArray, List.getElem_cons_succ, List.getElem_cons_zero, List.setIfInBounds_toArray, List.set_cons_zero, List.set_cons_succ]
  refine wpAnyH_take (i := 3) (v := .pointer (some ⟨k, 1, none⟩)) rfl (by kernel_rfl) (by kernel_rfl) (by kernel_rfl) (fun _ _ _ h => h) (Or.inl ⟨by rfl, fun w h => by go_simp⟩) hHeld ?_
  try simp only [Act.put, List.getElem_toArray, List.getElem_cons_succ, List.getElem_cons_zero, List.setIfInBounds_toArray, List.set_cons_zero, List.set_cons_succ]
  refine wpAnyH_take (i := 4) (v := .int .u64 (m.id : Int)) rfl (by kernel_rfl) (by kernel_rfl) (by kernel_rfl) (fun _ _ _ h => h) (Or.inl ⟨by rfl, fun w h => by go_simp⟩) hHeld ?_
  try simp only [Act.put, List.getElem_toArray, List.getElem_cons_succ, List.getElem_cons_zero, List.setIfInBounds_toArray, List.set_cons_zero, List.set_cons_succ]
  refine wpAnyH_take (i := 5) (v := .int .u64 (K : Int)) rfl (by kernel_rfl) (by kernel_rfl) (by kernel_rfl) (fun _ _ _ h => h) (Or.inl ⟨by rfl, fun w h => by go_simp⟩) hHeld ?_
  try simp only [Act.put, List.getElem_toArray, List.getElem_cons_succ, List.getElem_cons_zero, List.setIfInBounds_toArray, List.set_cons_zero, List.set_cons_succ]
  refine wpAnyH_ready (rs := [6]) (by kernel_rfl) (by simp) (AllReadyH.cons rfl (fun K hK => ?_) AllReadyH.nil)
  go_simp
  go_at_call 29
  refine HFN.out.mono ?_
  rintro y w3 ⟨rfl, rfl⟩
  refine hK.out _ _ hHeld (fun hHeld => ?_)
  clear hK
  try simp only [Act.put, List.getElem_toArray, List.getElem_cons_succ, List.getElem_cons_zero, List.setIfInBounds_toArray, List.set_cons_zero, List.set_cons_succ]
  refine wpAnyH_take (i := 7) (v := .pointer (some ⟨b, J, none⟩)) rfl (by kernel_rfl) (by kernel_rfl) (by kernel_rfl) (fun _ _ _ h => h) (Or.inl ⟨by rfl, fun w h => by go_simp⟩) hHeld ?_
  try simp only [Act.put, List.getElem_toArray, List.getElem_cons_succ, List.getElem_cons_zero, List.setIfInBounds_toArray, List.set_cons_zero, List.set_cons_succ]
  refine wpAnyH_done (by kernel_rfl) ?_ _
  try simp only [Act.put, List.getElem_toArray, List.getElem_cons_succ, List.getElem_cons_zero]
  go_wp2_with (go_at_call 30; refine HOV.out.mono ?_; rintro y w4 ⟨rfl, A4, z4, s4⟩)
  go_ret
  exact ⟨rfl, A4, z4, HSV.out.trans s4⟩
end
end Go.Proofs.YtokgpnkooigamaaDoor
