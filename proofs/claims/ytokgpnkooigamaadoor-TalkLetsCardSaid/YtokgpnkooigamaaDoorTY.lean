/- talk's hear of requests; Hear. -/
import Derived.Test.YtokgpnkooigamaaDoorTW
set_option maxRecDepth 100000
set_option linter.unusedVariables false
namespace Go.Proofs.YtokgpnkooigamaaDoor
open Go.RowKit
section
variable {w : World} {base g : Nat} {S : SS} {A : SL}
set_option maxHeartbeats 8000000 in
theorem hear_req (h : SZ w base g S A) {m : MG} {s : ML} (hm : MO w base m s) (hK : KA w) (hl : S.their.length ≤ 1048576) (ho : S.out.length ≤ 1048576) (hB : base ≤ w.heap.size) (hr : rightM m = true) (hs : setupB S m = false) (hd : S.heard = true) (hq : requestS m.kind = true) :
    Calls Tryd.prog 20 #[.pointer (some ⟨g, 0, none⟩), .agg (mgc m s).toArray] w fun e w' => e = .returned (.int .u64 ((askedS S m).2 : Int)) ∧ ∃ A', SZ w' base g (askedS S m).1 A' ∧ SK w g A w' A' := by
  have HHD := Lib.hid hd
  have HRQ := Lib.hid hq
  clear hq
  obtain ⟨h1, hm1, hR, hb⟩ := boxed h hm
  obtain ⟨k, hk⟩ : ∃ k, w.heap.size = k := ⟨_, rfl⟩
  obtain ⟨w1, hw1⟩ : ∃ x', w.alloc (.cells (mgc m s).toArray 31) = x' := ⟨_, rfl⟩
  rw [hw1, hk] at hR
  rw [hw1] at hb h1 hm1
  have c0 : w1.cell? ⟨k, 0, none⟩ = some (.int .u64 (m.kind : Int)) := hR.at_ 0
  have g0 : w1.cell? ⟨g, 0, none⟩ = some (.bool S.srv) := h1.row.at_ 0
  have hrt := tright_any w1 m s hm1.mr (hK.bel hb (Nat.le_refl _))
  obtain ⟨sb, hsb⟩ : ∃ b, setupB S m = b := ⟨_, rfl⟩
  rw [hr] at hrt
  have HB := Lib.hid hb
  have HR := Lib.hid hR
  have H1 := Lib.hid h1
  have HM1 := Lib.hid hm1
  have HSK1 := Lib.hid (SK.bel (g := g) (A := A) hb)
  have HRT := Lib.hid hrt
  have HSB := Lib.hid hsb
  have Hrg := Lib.hid hR.rng
  clear hb hR h h1 hm hm1 hK hrt
  unfold mgc u64 SA.v at hw1 ⊢
  go_enter Tryd.func20, Tryd.ntmps20
  go_upto_region 1 with (fail)
  go_cut [5] (fun s5 wx => s5 = .bool sb ∧ w1 = wx)
  case first => as_aux_lemma =>
    clear HRT HSK1 HM1 H1 HR HB Hrg hr hs hd HHD HRQ
    obtain ⟨sv, hsv⟩ : ∃ b, S.srv = b := ⟨_, rfl⟩
    rw [hsv] at g0
    unfold setupB at hsb
    rw [hsv] at hsb
    clear hsv HSB
    by_cases k32 : m.kind = 32
    · have q32 : ((m.kind : Int) == 32) = true := by simp; omega
      have q33 : ((m.kind : Int) == 33) = false := by simp; omega
      cases sv with
      | true =>
        have e1 : sb = true := by rw [← hsb]; simp [k32]
        subst e1
        clear hsb k32
        go_wp2
        go_meet
        exact ⟨rfl, rfl⟩
      | false =>
        have e1 : sb = false := by rw [← hsb]; simp [k32]
        subst e1
        clear hsb k32
        go_wp2
        go_meet
        exact ⟨rfl, rfl⟩
    · have q32 : ((m.kind : Int) == 32) = false := by simp; omega
      by_cases k33 : m.kind = 33
      · have q33 : ((m.kind : Int) == 33) = true := by simp; omega
        cases sv with
        | true =>
          have e1 : sb = false := by rw [← hsb]; simp [k33]
          subst e1
          clear hsb k32 k33
          go_wp2
          go_meet
          exact ⟨rfl, rfl⟩
        | false =>
          have e1 : sb = true := by rw [← hsb]; simp [k33]
          subst e1
          clear hsb k32 k33
          go_wp2
          go_meet
          exact ⟨rfl, rfl⟩
      · have q33 : ((m.kind : Int) == 33) = false := by simp; omega
        have e1 : sb = false := by rw [← hsb]; simp [k32, k33]
        subst e1
        clear hsb k32 k33
        go_wp2
        go_meet
        exact ⟨rfl, rfl⟩
  case rest =>
  obtain ⟨rfl, rfl⟩ := hcut
  obtain rfl : sb = false := by rw [← HSB.out]; exact hs
  clear hs hd hr hsb
  go_upto_region 4 with (first
    | (refine L_loadG 31 _ rfl (by rfl) _ _ rfl _ _ Hrg.out Tryd.underlying31 rfl iMsg ?_)
    | (go_at_call 23; refine HRT.out.mono ?_; rintro y w2 ⟨rfl, B2⟩; have HB2 := Lib.hid B2; have g6 : w2.cell? ⟨g, 6, none⟩ = some (.bool true) := (by have := (H1.out.bel B2).row.at_ 6; rw [HHD.out] at this; exact this); clear B2))
  have hrq := request_any w2 m.kind
  rw [HRQ.out] at hrq
  have HQ2 := Lib.hid hrq
  have hr2 := HR.out.bel HB2.out
  have c0b : w2.cell? ⟨k, 0, none⟩ = some (.int .u64 (m.kind : Int)) := hr2.at_ 0
  have Hrg2 := Lib.hid (show w2.rangeAt k 0 [.int .u64 (m.kind : Int), .int .u64 (m.id : Int), .int .u64 (m.alias : Int), .slice s.nm.a s.nm.n s.nm.c, .int .u8 (m.prio : Int), .int .u8 (m.ord : Int), .int .u64 (m.sg : Int), .int .u64 (m.so : Int), .int .u64 (m.eg : Int), .int .u64 (m.eo : Int), .bool m.some, .int .u64 (m.code : Int), .slice s.rs.a s.rs.n s.rs.c, .int .u64 (m.n : Int), .int .u64 (m.ver : Int), .slice s.vs.a s.vs.n s.vs.c] from hr2.rng)
  have has := asked_any (H1.out.bel HB2.out) (HM1.out.bel HB2.out (Nat.le_refl _)) hl (Nat.le_trans hB (HSK1.out.trans (SK.bel (g := g) (A := A) HB2.out)).size)
  have HAS := Lib.hid has
  have HSK2 := Lib.hid (HSK1.out.trans (SK.bel (g := g) (A := A) HB2.out))
  unfold mgc Go.Proofs.YtokgpnkooigamaaDoor.u64 SA.v at has
  have HAS2 := Lib.hid has
  clear hrq hr2 has g6 c0 g0 HAS
  go_wp2_with (first
    | (go_at_call 24; refine HQ2.out.mono ?_; rintro y w3 ⟨rfl, rfl⟩)
    | (refine L_loadG 31 _ rfl (by rfl) _ _ rfl _ _ Hrg2.out Tryd.underlying31 rfl iMsg ?_)
    | (go_at_call 32; refine HAS2.out.mono ?_; rintro y w3 ⟨rfl, A3, hz3, hs3⟩))
  go_ret
  exact ⟨rfl, A3, hz3, HSK2.out.trans hs3⟩
/-- a message that comes while the session is not closed -/
theorem Hear_go (h : SZ w base g S A) {m : MG} {s : ML} (hm : MR w m s) (hK : KA w) (hB : base ≤ w.heap.size) (hc : S.code = 0) {S1 : SS} {c : Nat}
    (hh : ∀ (w1 : World) (s1 : ML), SZ w1 base g S A → MO w1 base m s1 → KA w1 → base ≤ w1.heap.size → Calls Tryd.prog 20 #[.pointer (some ⟨g, 0, none⟩), .agg (mgc m s1).toArray] w1 fun e w' => e = .returned (.int .u64 (c : Int)) ∧ ∃ A', SZ w' base g S1 A' ∧ SK w1 g A w' A') :
    Calls Tryd.prog 9 #[.pointer (some ⟨g, 0, none⟩), .agg (mgc m s).toArray] w fun e w' => e = .returned (.int .u64 (c : Int)) ∧ ∃ A', SZ w' base g { S1 with code := c } A' ∧ SK w g A w' A' := by
  have hb := below_alloc w (.cells (mgc m s).toArray 31)
  have hR := CR.new w 31 (mgc m s)
  obtain ⟨k, hk⟩ : ∃ k, w.heap.size = k := ⟨_, rfl⟩
  obtain ⟨w1, hw1⟩ : ∃ x', w.alloc (.cells (mgc m s).toArray 31) = x' := ⟨_, rfl⟩
  have h1 := h.bel hb
  have hm1 := hm.bel hb (Nat.le_refl _)
  rw [hw1, hk] at hR
  rw [hw1] at hb h1 hm1
  have g7 : w1.cell? ⟨g, 7, none⟩ = some (.int .u64 (S.code : Int)) := h1.row.at_ 7
  rw [hc] at g7
  have Hrg := Lib.hid hR.rng
  have HCP := Lib.hid (copyOf_any w1 m s hm1)
  have HSK1 := Lib.hid (SK.bel (g := g) (A := A) hb)
  have HH := Lib.hid (fun (w2 : World) (s2 : ML) (b2 : Below w1.heap.size w1 w2) (m2 : MO w2 w1.heap.size m s2) => hh w2 s2 (h1.bel b2) (m2.mono (Nat.le_trans hB hb.size)) ((hK.bel hb (Nat.le_refl _)).bel b2 (Nat.le_refl _)) (Nat.le_trans (Nat.le_trans hB hb.size) b2.size))
  clear hh hK hb hR h h1 hm hm1 hc
  unfold mgc u64 SA.v at hw1 ⊢
  go_enter Tryd.func9, Tryd.ntmps9
  go_wp2_with (first
    | (refine L_loadG 31 _ rfl (by rfl) _ _ rfl _ _ Hrg.out Tryd.underlying31 rfl iMsg ?_)
    | (go_at_call 21; refine HCP.out.mono ?_; rintro y w2 ⟨s2, rfl, m2, b2⟩; have HH2 := Lib.hid (HH.out w2 s2 b2 m2); have HB2 := Lib.hid b2; clear m2 b2)
    | (go_at_call 20; refine HH2.out.mono ?_; rintro y w3 ⟨rfl, A3, hz3, hs3⟩; have q7 : w3.cell? ⟨g, 7, none⟩ = some (.int .u64 (S1.code : Int)) := hz3.row.at_ 7; have f7 := hz3.row.fr 7; have HC := Lib.hid (hz3.set_code c); have HS3 := Lib.hid hs3; clear hz3 hs3))
  go_ret
  exact ⟨rfl, A3, HC.out.1, ((HSK1.out.trans (SK.bel HB2.out)).trans HS3.out).trans HC.out.2⟩
theorem Hear_closed (h : SZ w base g S A) (m : MG) (s : ML) (hc : S.code ≠ 0) :
    Calls Tryd.prog 9 #[.pointer (some ⟨g, 0, none⟩), .agg (mgc m s).toArray] w fun e w' => e = .returned (.int .u64 (S.code : Int)) ∧ Below w.heap.size w w' := by
  have hb := below_alloc w (.cells (mgc m s).toArray 31)
  obtain ⟨w1, hw1⟩ : ∃ x', w.alloc (.cells (mgc m s).toArray 31) = x' := ⟨_, rfl⟩
  have h1 := h.bel hb
  rw [hw1] at hb h1
  have g7 : w1.cell? ⟨g, 7, none⟩ = some (.int .u64 (S.code : Int)) := h1.row.at_ 7
  have q7 : ((S.code : Int) == 0) = false := by simp; omega
  have HB := Lib.hid hb
  clear hb h h1 hc
  unfold mgc u64 SA.v at hw1 ⊢
  go_enter Tryd.func9, Tryd.ntmps9
  go_wp2
  go_ret
  exact ⟨rfl, HB.out⟩
theorem Hear_nil (w : World) (m : MG) (s : ML) :
    Calls Tryd.prog 9 #[.pointer none, .agg (mgc m s).toArray] w fun e w' => e = .returned (.int .u64 0) ∧ Below w.heap.size w w' := by
  have HB := Lib.hid (below_alloc w (.cells (mgc m s).toArray 31))
  unfold mgc u64 SA.v at HB ⊢
  go_enter Tryd.func9, Tryd.ntmps9
  go_wp2
  go_ret
  exact ⟨rfl, HB.out⟩
end
end Go.Proofs.YtokgpnkooigamaaDoor
