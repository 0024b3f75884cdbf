/- talk's hear: what is refused, setups, requests. -/
import Derived.Test.YtokgpnkooigamaaDoorTU
import Derived.Test.YtokgpnkooigamaaDoorTV
import Derived.Deep.DeepCutAuto
set_option maxRecDepth 100000
set_option linter.unusedVariables false
namespace Go.Proofs.YtokgpnkooigamaaDoor
open Go.RowKit
/-- is it the other side's Setup? -/
def setupB (S : SS) (m : MG) : Bool := (m.kind == 32 && S.srv) || (m.kind == 33 && !S.srv)
section
variable {w : World} {base g : Nat} {S : SS} {A : SL}
set_option maxHeartbeats 8000000 in
theorem hear_wrong (h : SZ w base g S A) {m : MG} {s : ML} (hm : MO w base m s) (hK : KA w) (hl : S.their.length ≤ 1048576) (ho : S.out.length ≤ 1048576) (hB : base ≤ w.heap.size) (hr : rightM m = false) :
    Calls Tryd.prog 20 #[.pointer (some ⟨g, 0, none⟩), .agg (mgc m s).toArray] w fun e w' => e = .returned (.int .u64 3) ∧ Below w.heap.size w w' := by
  obtain ⟨h1, hm1, hR, hb⟩ := boxed h hm
  obtain ⟨k, hk⟩ : ∃ k, w.heap.size = k := ⟨_, rfl⟩
  obtain ⟨w1, hw1⟩ : ∃ x', w.alloc (.cells (mgc m s).toArray 31) = x' := ⟨_, rfl⟩
  rw [hw1, hk] at hR
  rw [hw1] at hb h1 hm1
  have c0 : w1.cell? ⟨k, 0, none⟩ = some (.int .u64 (m.kind : Int)) := hR.at_ 0
  have g0 : w1.cell? ⟨g, 0, none⟩ = some (.bool S.srv) := h1.row.at_ 0
  have hrt := tright_any w1 m s hm1.mr (hK.bel hb (Nat.le_refl _))
  obtain ⟨sb, hsb⟩ : ∃ b, setupB S m = b := ⟨_, rfl⟩
  rw [hr] at hrt
  have HB := Lib.hid hb
  have HR := Lib.hid hR
  have H1 := Lib.hid h1
  have HM1 := Lib.hid hm1
  have HSK1 := Lib.hid (SK.bel (g := g) (A := A) hb)
  have HRT := Lib.hid hrt
  have HSB := Lib.hid hsb
  have Hrg := Lib.hid hR.rng
  clear hb hR h h1 hm hm1 hK hrt
  unfold mgc u64 SA.v at hw1 ⊢
  go_enter Tryd.func20, Tryd.ntmps20
  go_upto_region 1 with (fail)
  go_cut [5] (fun s5 wx => s5 = .bool sb ∧ w1 = wx)
  case first => as_aux_lemma =>
    clear HRT HSK1 HM1 H1 HR HB Hrg hr
    obtain ⟨sv, hsv⟩ : ∃ b, S.srv = b := ⟨_, rfl⟩
    rw [hsv] at g0
    unfold setupB at hsb
    rw [hsv] at hsb
    clear hsv HSB
    by_cases k32 : m.kind = 32
    · have q32 : ((m.kind : Int) == 32) = true := by simp; omega
      have q33 : ((m.kind : Int) == 33) = false := by simp; omega
      cases sv with
      | true =>
        have e1 : sb = true := by rw [← hsb]; simp [k32]
        subst e1
        clear hsb k32
        go_wp2
        go_meet
        exact ⟨rfl, rfl⟩
      | false =>
        have e1 : sb = false := by rw [← hsb]; simp [k32]
        subst e1
        clear hsb k32
        go_wp2
        go_meet
        exact ⟨rfl, rfl⟩
    · have q32 : ((m.kind : Int) == 32) = false := by simp; omega
      by_cases k33 : m.kind = 33
      · have q33 : ((m.kind : Int) == 33) = true := by simp; omega
        cases sv with
        | true =>
          have e1 : sb = false := by rw [← hsb]; simp [k33]
          subst e1
          clear hsb k32 k33
          go_wp2
          go_meet
          exact ⟨rfl, rfl⟩
        | false =>
          have e1 : sb = true := by rw [← hsb]; simp [k33]
          subst e1
          clear hsb k32 k33
          go_wp2
          go_meet
          exact ⟨rfl, rfl⟩
      · have q33 : ((m.kind : Int) == 33) = false := by simp; omega
        have e1 : sb = false := by rw [← hsb]; simp [k32, k33]
        subst e1
        clear hsb k32 k33
        go_wp2
        go_meet
        exact ⟨rfl, rfl⟩
  case rest =>
  obtain ⟨rfl, rfl⟩ := hcut
  go_wp2_with (first
    | (refine L_loadG 31 _ rfl (by rfl) _ _ rfl _ _ Hrg.out Tryd.underlying31 rfl iMsg ?_)
    | (go_at_call 23; refine HRT.out.mono ?_; rintro y w2 ⟨rfl, B2⟩; have HB2 := Lib.hid B2; clear B2))
  go_ret
  exact ⟨rfl, btr HB.out HB2.out⟩
set_option maxHeartbeats 8000000 in
theorem hear_twice_true (h : SZ w base g S A) {m : MG} {s : ML} (hm : MO w base m s) (hK : KA w) (hl : S.their.length ≤ 1048576) (ho : S.out.length ≤ 1048576) (hB : base ≤ w.heap.size) (hr : rightM m = true) (hs : setupB S m = true) (hd : S.heard = true) :
    Calls Tryd.prog 20 #[.pointer (some ⟨g, 0, none⟩), .agg (mgc m s).toArray] w fun e w' => e = .returned (.int .u64 3) ∧ Below w.heap.size w w' := by
  have HHD := Lib.hid hd
  obtain ⟨h1, hm1, hR, hb⟩ := boxed h hm
  obtain ⟨k, hk⟩ : ∃ k, w.heap.size = k := ⟨_, rfl⟩
  obtain ⟨w1, hw1⟩ : ∃ x', w.alloc (.cells (mgc m s).toArray 31) = x' := ⟨_, rfl⟩
  rw [hw1, hk] at hR
  rw [hw1] at hb h1 hm1
  have c0 : w1.cell? ⟨k, 0, none⟩ = some (.int .u64 (m.kind : Int)) := hR.at_ 0
  have g0 : w1.cell? ⟨g, 0, none⟩ = some (.bool S.srv) := h1.row.at_ 0
  have hrt := tright_any w1 m s hm1.mr (hK.bel hb (Nat.le_refl _))
  obtain ⟨sb, hsb⟩ : ∃ b, setupB S m = b := ⟨_, rfl⟩
  rw [hr] at hrt
  have HB := Lib.hid hb
  have HR := Lib.hid hR
  have H1 := Lib.hid h1
  have HM1 := Lib.hid hm1
  have HSK1 := Lib.hid (SK.bel (g := g) (A := A) hb)
  have HRT := Lib.hid hrt
  have HSB := Lib.hid hsb
  have Hrg := Lib.hid hR.rng
  clear hb hR h h1 hm hm1 hK hrt
  unfold mgc u64 SA.v at hw1 ⊢
  go_enter Tryd.func20, Tryd.ntmps20
  go_upto_region 1 with (fail)
  go_cut [5] (fun s5 wx => s5 = .bool sb ∧ w1 = wx)
  case first => as_aux_lemma =>
    clear HRT HSK1 HM1 H1 HR HB Hrg hr hs hd HHD
    obtain ⟨sv, hsv⟩ : ∃ b, S.srv = b := ⟨_, rfl⟩
    rw [hsv] at g0
    unfold setupB at hsb
    rw [hsv] at hsb
    clear hsv HSB
    by_cases k32 : m.kind = 32
    · have q32 : ((m.kind : Int) == 32) = true := by simp; omega
      have q33 : ((m.kind : Int) == 33) = false := by simp; omega
      cases sv with
      | true =>
        have e1 : sb = true := by rw [← hsb]; simp [k32]
        subst e1
        clear hsb k32
        go_wp2
        go_meet
        exact ⟨rfl, rfl⟩
      | false =>
        have e1 : sb = false := by rw [← hsb]; simp [k32]
        subst e1
        clear hsb k32
        go_wp2
        go_meet
        exact ⟨rfl, rfl⟩
    · have q32 : ((m.kind : Int) == 32) = false := by simp; omega
      by_cases k33 : m.kind = 33
      · have q33 : ((m.kind : Int) == 33) = true := by simp; omega
        cases sv with
        | true =>
          have e1 : sb = false := by rw [← hsb]; simp [k33]
          subst e1
          clear hsb k32 k33
          go_wp2
          go_meet
          exact ⟨rfl, rfl⟩
        | false =>
          have e1 : sb = true := by rw [← hsb]; simp [k33]
          subst e1
          clear hsb k32 k33
          go_wp2
          go_meet
          exact ⟨rfl, rfl⟩
      · have q33 : ((m.kind : Int) == 33) = false := by simp; omega
        have e1 : sb = false := by rw [← hsb]; simp [k32, k33]
        subst e1
        clear hsb k32 k33
        go_wp2
        go_meet
        exact ⟨rfl, rfl⟩
  case rest =>
  obtain ⟨rfl, rfl⟩ := hcut
  obtain rfl : sb = true := by rw [← HSB.out]; exact hs
  clear hs hd hr hsb
  go_wp2_with (first
    | (refine L_loadG 31 _ rfl (by rfl) _ _ rfl _ _ Hrg.out Tryd.underlying31 rfl iMsg ?_)
    | (go_at_call 23; refine HRT.out.mono ?_; rintro y w2 ⟨rfl, B2⟩; have HB2 := Lib.hid B2; have g6 : w2.cell? ⟨g, 6, none⟩ = some (.bool true) := (by have := (H1.out.bel B2).row.at_ 6; rw [HHD.out] at this; exact this); clear B2))
  go_ret
  exact ⟨rfl, btr HB.out HB2.out⟩
set_option maxHeartbeats 8000000 in
theorem hear_twice_false (h : SZ w base g S A) {m : MG} {s : ML} (hm : MO w base m s) (hK : KA w) (hl : S.their.length ≤ 1048576) (ho : S.out.length ≤ 1048576) (hB : base ≤ w.heap.size) (hr : rightM m = true) (hs : setupB S m = false) (hd : S.heard = false) :
    Calls Tryd.prog 20 #[.pointer (some ⟨g, 0, none⟩), .agg (mgc m s).toArray] w fun e w' => e = .returned (.int .u64 3) ∧ Below w.heap.size w w' := by
  have HHD := Lib.hid hd
  obtain ⟨h1, hm1, hR, hb⟩ := boxed h hm
  obtain ⟨k, hk⟩ : ∃ k, w.heap.size = k := ⟨_, rfl⟩
  obtain ⟨w1, hw1⟩ : ∃ x', w.alloc (.cells (mgc m s).toArray 31) = x' := ⟨_, rfl⟩
  rw [hw1, hk] at hR
  rw [hw1] at hb h1 hm1
  have c0 : w1.cell? ⟨k, 0, none⟩ = some (.int .u64 (m.kind : Int)) := hR.at_ 0
  have g0 : w1.cell? ⟨g, 0, none⟩ = some (.bool S.srv) := h1.row.at_ 0
  have hrt := tright_any w1 m s hm1.mr (hK.bel hb (Nat.le_refl _))
  obtain ⟨sb, hsb⟩ : ∃ b, setupB S m = b := ⟨_, rfl⟩
  rw [hr] at hrt
  have HB := Lib.hid hb
  have HR := Lib.hid hR
  have H1 := Lib.hid h1
  have HM1 := Lib.hid hm1
  have HSK1 := Lib.hid (SK.bel (g := g) (A := A) hb)
  have HRT := Lib.hid hrt
  have HSB := Lib.hid hsb
  have Hrg := Lib.hid hR.rng
  clear hb hR h h1 hm hm1 hK hrt
  unfold mgc u64 SA.v at hw1 ⊢
  go_enter Tryd.func20, Tryd.ntmps20
  go_upto_region 1 with (fail)
  go_cut [5] (fun s5 wx => s5 = .bool sb ∧ w1 = wx)
  case first => as_aux_lemma =>
    clear HRT HSK1 HM1 H1 HR HB Hrg hr hs hd HHD
    obtain ⟨sv, hsv⟩ : ∃ b, S.srv = b := ⟨_, rfl⟩
    rw [hsv] at g0
    unfold setupB at hsb
    rw [hsv] at hsb
    clear hsv HSB
    by_cases k32 : m.kind = 32
    · have q32 : ((m.kind : Int) == 32) = true := by simp; omega
      have q33 : ((m.kind : Int) == 33) = false := by simp; omega
      cases sv with
      | true =>
        have e1 : sb = true := by rw [← hsb]; simp [k32]
        subst e1
        clear hsb k32
        go_wp2
        go_meet
        exact ⟨rfl, rfl⟩
      | false =>
        have e1 : sb = false := by rw [← hsb]; simp [k32]
        subst e1
        clear hsb k32
        go_wp2
        go_meet
        exact ⟨rfl, rfl⟩
    · have q32 : ((m.kind : Int) == 32) = false := by simp; omega
      by_cases k33 : m.kind = 33
      · have q33 : ((m.kind : Int) == 33) = true := by simp; omega
        cases sv with
        | true =>
          have e1 : sb = false := by rw [← hsb]; simp [k33]
          subst e1
          clear hsb k32 k33
          go_wp2
          go_meet
          exact ⟨rfl, rfl⟩
        | false =>
          have e1 : sb = true := by rw [← hsb]; simp [k33]
          subst e1
          clear hsb k32 k33
          go_wp2
          go_meet
          exact ⟨rfl, rfl⟩
      · have q33 : ((m.kind : Int) == 33) = false := by simp; omega
        have e1 : sb = false := by rw [← hsb]; simp [k32, k33]
        subst e1
        clear hsb k32 k33
        go_wp2
        go_meet
        exact ⟨rfl, rfl⟩
  case rest =>
  obtain ⟨rfl, rfl⟩ := hcut
  obtain rfl : sb = false := by rw [← HSB.out]; exact hs
  clear hs hd hr hsb
  go_wp2_with (first
    | (refine L_loadG 31 _ rfl (by rfl) _ _ rfl _ _ Hrg.out Tryd.underlying31 rfl iMsg ?_)
    | (go_at_call 23; refine HRT.out.mono ?_; rintro y w2 ⟨rfl, B2⟩; have HB2 := Lib.hid B2; have g6 : w2.cell? ⟨g, 6, none⟩ = some (.bool false) := (by have := (H1.out.bel B2).row.at_ 6; rw [HHD.out] at this; exact this); clear B2))
  go_ret
  exact ⟨rfl, btr HB.out HB2.out⟩
set_option maxHeartbeats 8000000 in
theorem hear_v32 (h : SZ w base g S A) {m : MG} {s : ML} (hm : MO w base m s) (hK : KA w) (hl : S.their.length ≤ 1048576) (ho : S.out.length ≤ 1048576) (hB : base ≤ w.heap.size) (hr : rightM m = true) (hs : setupB S m = true) (hd : S.heard = false) (hkd : m.kind = 32) (hv : m.vers.contains 1 = false) :
    Calls Tryd.prog 20 #[.pointer (some ⟨g, 0, none⟩), .agg (mgc m s).toArray] w fun e w' => e = .returned (.int .u64 21) ∧ Below w.heap.size w w' := by
  have HHD := Lib.hid hd
  obtain ⟨Q, hQ⟩ : ∃ Q, m.vers.contains 1 = Q := ⟨_, rfl⟩
  have HQ := Lib.hid hQ
  obtain rfl : Q = false := by rw [← hQ]; exact hv
  have q32 : ((m.kind : Int) == 32) = true := by simp; omega
  clear hQ hv hkd
  obtain ⟨h1, hm1, hR, hb⟩ := boxed h hm
  obtain ⟨k, hk⟩ : ∃ k, w.heap.size = k := ⟨_, rfl⟩
  obtain ⟨w1, hw1⟩ : ∃ x', w.alloc (.cells (mgc m s).toArray 31) = x' := ⟨_, rfl⟩
  rw [hw1, hk] at hR
  rw [hw1] at hb h1 hm1
  have c0 : w1.cell? ⟨k, 0, none⟩ = some (.int .u64 (m.kind : Int)) := hR.at_ 0
  have g0 : w1.cell? ⟨g, 0, none⟩ = some (.bool S.srv) := h1.row.at_ 0
  have hrt := tright_any w1 m s hm1.mr (hK.bel hb (Nat.le_refl _))
  obtain ⟨sb, hsb⟩ : ∃ b, setupB S m = b := ⟨_, rfl⟩
  rw [hr] at hrt
  have HB := Lib.hid hb
  have HR := Lib.hid hR
  have H1 := Lib.hid h1
  have HM1 := Lib.hid hm1
  have HSK1 := Lib.hid (SK.bel (g := g) (A := A) hb)
  have HRT := Lib.hid hrt
  have HSB := Lib.hid hsb
  have Hrg := Lib.hid hR.rng
  clear hb hR h h1 hm hm1 hK hrt
  unfold mgc u64 SA.v at hw1 ⊢
  go_enter Tryd.func20, Tryd.ntmps20
  go_upto_region 1 with (fail)
  go_cut [5] (fun s5 wx => s5 = .bool sb ∧ w1 = wx)
  case first => as_aux_lemma =>
    clear HRT HSK1 HM1 H1 HR HB Hrg hr hs hd HHD HQ q32
    obtain ⟨sv, hsv⟩ : ∃ b, S.srv = b := ⟨_, rfl⟩
    rw [hsv] at g0
    unfold setupB at hsb
    rw [hsv] at hsb
    clear hsv HSB
    by_cases k32 : m.kind = 32
    · have q32 : ((m.kind : Int) == 32) = true := by simp; omega
      have q33 : ((m.kind : Int) == 33) = false := by simp; omega
      cases sv with
      | true =>
        have e1 : sb = true := by rw [← hsb]; simp [k32]
        subst e1
        clear hsb k32
        go_wp2
        go_meet
        exact ⟨rfl, rfl⟩
      | false =>
        have e1 : sb = false := by rw [← hsb]; simp [k32]
        subst e1
        clear hsb k32
        go_wp2
        go_meet
        exact ⟨rfl, rfl⟩
    · have q32 : ((m.kind : Int) == 32) = false := by simp; omega
      by_cases k33 : m.kind = 33
      · have q33 : ((m.kind : Int) == 33) = true := by simp; omega
        cases sv with
        | true =>
          have e1 : sb = false := by rw [← hsb]; simp [k33]
          subst e1
          clear hsb k32 k33
          go_wp2
          go_meet
          exact ⟨rfl, rfl⟩
        | false =>
          have e1 : sb = true := by rw [← hsb]; simp [k33]
          subst e1
          clear hsb k32 k33
          go_wp2
          go_meet
          exact ⟨rfl, rfl⟩
      · have q33 : ((m.kind : Int) == 33) = false := by simp; omega
        have e1 : sb = false := by rw [← hsb]; simp [k32, k33]
        subst e1
        clear hsb k32 k33
        go_wp2
        go_meet
        exact ⟨rfl, rfl⟩
  case rest =>
  obtain ⟨rfl, rfl⟩ := hcut
  obtain rfl : sb = true := by rw [← HSB.out]; exact hs
  clear hs hd hr hsb
  go_upto_region 4 with (first
    | (refine L_loadG 31 _ rfl (by rfl) _ _ rfl _ _ Hrg.out Tryd.underlying31 rfl iMsg ?_)
    | (go_at_call 23; refine HRT.out.mono ?_; rintro y w2 ⟨rfl, B2⟩; have HB2 := Lib.hid B2; have g6 : w2.cell? ⟨g, 6, none⟩ = some (.bool false) := (by have := (H1.out.bel B2).row.at_ 6; rw [HHD.out] at this; exact this); clear B2))
  have hr2 := HR.out.bel HB2.out
  have c0b : w2.cell? ⟨k, 0, none⟩ = some (.int .u64 (m.kind : Int)) := hr2.at_ 0
  have c12 : w2.cell? ⟨k, 14, none⟩ = some (.int .u64 (m.ver : Int)) := hr2.at_ 14
  have c13 : w2.cell? ⟨k, 15, none⟩ = some (.slice s.vs.a s.vs.n s.vs.c) := hr2.at_ 15
  have c11 : w2.cell? ⟨k, 13, none⟩ = some (.int .u64 (m.n : Int)) := hr2.at_ 13
  have HCT := Lib.hid (ucontains_any w2 (HM1.out.bel HB2.out (Nat.le_refl _)).vs.rs (HM1.out.bel HB2.out (Nat.le_refl _)).l3 1)
  rw [HQ.out] at HCT
  clear hr2 g6 c0 g0
  go_wp2_with (go_at_call 31; refine HCT.out.mono ?_; rintro y w3 ⟨rfl, rfl⟩)
  go_ret
  exact ⟨rfl, btr HB.out HB2.out⟩
set_option maxHeartbeats 8000000 in
theorem hear_v33 (h : SZ w base g S A) {m : MG} {s : ML} (hm : MO w base m s) (hK : KA w) (hl : S.their.length ≤ 1048576) (ho : S.out.length ≤ 1048576) (hB : base ≤ w.heap.size) (hr : rightM m = true) (hs : setupB S m = true) (hd : S.heard = false) (hkd : m.kind = 33) (hv : m.ver ≠ 1) :
    Calls Tryd.prog 20 #[.pointer (some ⟨g, 0, none⟩), .agg (mgc m s).toArray] w fun e w' => e = .returned (.int .u64 21) ∧ Below w.heap.size w w' := by
  have HHD := Lib.hid hd
  obtain ⟨Q, hQ⟩ : ∃ Q, m.vers.contains 1 = Q := ⟨_, rfl⟩
  have HQ := Lib.hid hQ
  have q32 : ((m.kind : Int) == 32) = false := by simp; omega
  have q33 : ((m.kind : Int) == 33) = true := by simp; omega
  have qv : ((m.ver : Int) != 1) = true := by simp; omega
  clear hQ hv hkd
  obtain ⟨h1, hm1, hR, hb⟩ := boxed h hm
  obtain ⟨k, hk⟩ : ∃ k, w.heap.size = k := ⟨_, rfl⟩
  obtain ⟨w1, hw1⟩ : ∃ x', w.alloc (.cells (mgc m s).toArray 31) = x' := ⟨_, rfl⟩
  rw [hw1, hk] at hR
  rw [hw1] at hb h1 hm1
  have c0 : w1.cell? ⟨k, 0, none⟩ = some (.int .u64 (m.kind : Int)) := hR.at_ 0
  have g0 : w1.cell? ⟨g, 0, none⟩ = some (.bool S.srv) := h1.row.at_ 0
  have hrt := tright_any w1 m s hm1.mr (hK.bel hb (Nat.le_refl _))
  obtain ⟨sb, hsb⟩ : ∃ b, setupB S m = b := ⟨_, rfl⟩
  rw [hr] at hrt
  have HB := Lib.hid hb
  have HR := Lib.hid hR
  have H1 := Lib.hid h1
  have HM1 := Lib.hid hm1
  have HSK1 := Lib.hid (SK.bel (g := g) (A := A) hb)
  have HRT := Lib.hid hrt
  have HSB := Lib.hid hsb
  have Hrg := Lib.hid hR.rng
  clear hb hR h h1 hm hm1 hK hrt
  unfold mgc u64 SA.v at hw1 ⊢
  go_enter Tryd.func20, Tryd.ntmps20
  go_upto_region 1 with (fail)
  go_cut [5] (fun s5 wx => s5 = .bool sb ∧ w1 = wx)
  case first => as_aux_lemma =>
    clear HRT HSK1 HM1 H1 HR HB Hrg hr hs hd HHD HQ q32 q33 qv
    obtain ⟨sv, hsv⟩ : ∃ b, S.srv = b := ⟨_, rfl⟩
    rw [hsv] at g0
    unfold setupB at hsb
    rw [hsv] at hsb
    clear hsv HSB
    by_cases k32 : m.kind = 32
    · have q32 : ((m.kind : Int) == 32) = true := by simp; omega
      have q33 : ((m.kind : Int) == 33) = false := by simp; omega
      cases sv with
      | true =>
        have e1 : sb = true := by rw [← hsb]; simp [k32]
        subst e1
        clear hsb k32
        go_wp2
        go_meet
        exact ⟨rfl, rfl⟩
      | false =>
        have e1 : sb = false := by rw [← hsb]; simp [k32]
        subst e1
        clear hsb k32
        go_wp2
        go_meet
        exact ⟨rfl, rfl⟩
    · have q32 : ((m.kind : Int) == 32) = false := by simp; omega
      by_cases k33 : m.kind = 33
      · have q33 : ((m.kind : Int) == 33) = true := by simp; omega
        cases sv with
        | true =>
          have e1 : sb = false := by rw [← hsb]; simp [k33]
          subst e1
          clear hsb k32 k33
          go_wp2
          go_meet
          exact ⟨rfl, rfl⟩
        | false =>
          have e1 : sb = true := by rw [← hsb]; simp [k33]
          subst e1
          clear hsb k32 k33
          go_wp2
          go_meet
          exact ⟨rfl, rfl⟩
      · have q33 : ((m.kind : Int) == 33) = false := by simp; omega
        have e1 : sb = false := by rw [← hsb]; simp [k32, k33]
        subst e1
        clear hsb k32 k33
        go_wp2
        go_meet
        exact ⟨rfl, rfl⟩
  case rest =>
  obtain ⟨rfl, rfl⟩ := hcut
  obtain rfl : sb = true := by rw [← HSB.out]; exact hs
  clear hs hd hr hsb
  go_upto_region 4 with (first
    | (refine L_loadG 31 _ rfl (by rfl) _ _ rfl _ _ Hrg.out Tryd.underlying31 rfl iMsg ?_)
    | (go_at_call 23; refine HRT.out.mono ?_; rintro y w2 ⟨rfl, B2⟩; have HB2 := Lib.hid B2; have g6 : w2.cell? ⟨g, 6, none⟩ = some (.bool false) := (by have := (H1.out.bel B2).row.at_ 6; rw [HHD.out] at this; exact this); clear B2))
  have hr2 := HR.out.bel HB2.out
  have c0b : w2.cell? ⟨k, 0, none⟩ = some (.int .u64 (m.kind : Int)) := hr2.at_ 0
  have c12 : w2.cell? ⟨k, 14, none⟩ = some (.int .u64 (m.ver : Int)) := hr2.at_ 14
  have c13 : w2.cell? ⟨k, 15, none⟩ = some (.slice s.vs.a s.vs.n s.vs.c) := hr2.at_ 15
  have c11 : w2.cell? ⟨k, 13, none⟩ = some (.int .u64 (m.n : Int)) := hr2.at_ 13
  have HCT := Lib.hid (ucontains_any w2 (HM1.out.bel HB2.out (Nat.le_refl _)).vs.rs (HM1.out.bel HB2.out (Nat.le_refl _)).l3 1)
  rw [HQ.out] at HCT
  clear hr2 g6 c0 g0
  go_wp2_with (go_at_call 31; refine HCT.out.mono ?_; rintro y w3 ⟨rfl, rfl⟩)
  go_ret
  exact ⟨rfl, btr HB.out HB2.out⟩
end
end Go.Proofs.YtokgpnkooigamaaDoor
