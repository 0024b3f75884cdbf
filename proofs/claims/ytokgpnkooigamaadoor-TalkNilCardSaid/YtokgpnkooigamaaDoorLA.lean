/- the law's awake: the document's example. -/
import Derived.Test.YtokgpnkooigamaaDoorTZ
set_option maxRecDepth 100000
set_option linter.unusedVariables false
namespace Go.Proofs.YtokgpnkooigamaaDoor
open Go.RowKit
theorem SZ.cast {w : World} {base g : Nat} {S S' : SS} {A : SL} (h : SZ w base g S A) (he : S = S') : SZ w base g S' A := he ▸ h
set_option maxHeartbeats 8000000 in
theorem awake_any (w : World) (hK : KA w) :
    Calls Tryd.prog 7 #[] w fun e w' => e = .returned (.bool true) ∧ Below w.heap.size w w' := by
  have hN := new_srv w 5
  obtain ⟨g, hg⟩ : ∃ g, w.heap.size = g := ⟨_, rfl⟩
  rw [hg] at hN ⊢
  have HN := Lib.hid hN
  have LE : ∀ {x : World}, Below g w x → g ≤ x.heap.size := fun b => by rw [← hg]; exact b.size
  have H1 := Lib.hid (fun (w1 : World) (hz : SZ w1 g g (newS true 5) ⟨SA0, SA0, SA0, [], [], []⟩) (b1 : Below g w w1) =>
    (show Calls Tryd.prog 9 #[.pointer (some ⟨g, 0, none⟩), .agg #[.int .u64 32, .int .u64 0, .int .u64 0, .slice none 0 0, .int .u8 0, .int .u8 0, .int .u64 0, .int .u64 0, .int .u64 0, .int .u64 0, .bool false, .int .u64 0, .slice none 0 0, .int .u64 3, .int .u64 0, .slice (some ⟨w1.heap.size, 0, none⟩) 1 1]] (w1.alloc (.cells #[.int .u64 1] 23)) fun e w' => e = .returned (.int .u64 0) ∧ ∃ A', SZ w' g g ⟨true, [], 3, [], 5, [mNV 33 5 1], true, 0⟩ A' ∧ Below g w w' from by
      have hb := below_alloc w1 (.cells #[.int .u64 1] 23)
      have hz1 := hz.bel hb
      have b2 := b1.trans (hb.mono (LE b1))
      have hv := OW_made w1 0 23 1 #[.int .u64 1] 1 (Nat.zero_le _) rfl (by unfold maxLen; omega) (by simp [Value.oneCell'])
      have hm : MR (w1.alloc (.cells #[.int .u64 1] 23)) (cliM [1] 3) ⟨SA0, SA0, ⟨some ⟨w1.heap.size, 0, none⟩, 1, 1⟩⟩ :=
        ⟨⟨by simp [cliM], by simp [cliM], by simp [cliM], by simp [cliM], by simp [cliM], by simp [cliM], by simp [cliM], by simp [cliM], by simp [cliM], by simp [cliM], by simp [cliM], by simp [cliM]⟩, RS_nil _ _, RS_nil _ _, hv.rs, by simp [SA0], by simp [SA0], by simp⟩
      refine (Hear_s32 _ hz1 hm (hK.bel b2 (by omega)) (LE b2) rfl (by simp [newS]) (by simp [newS]) right_cli13 rfl rfl rfl (by simp [newS]) (by decide)).mono fun e w' hh => ?_
      obtain ⟨he, A', h1, h2⟩ := hh
      exact ⟨he, A', h1.cast (by simp [newS, cliM]), b2.trans (h2.below hz1 (LE b2))⟩))
  have H2 := Lib.hid (fun (w1 : World) (A : SL) (s : ML) (hz : SZ w1 g g ⟨true, [], 3, [], 5, [mNV 33 5 1], true, 0⟩ A) (b1 : Below g w w1) (hm : MR w1 (subM 0 1) s) =>
    (show Calls Tryd.prog 9 #[.pointer (some ⟨g, 0, none⟩), .agg (mgc (subM 0 1) s).toArray] w1 fun e w' => e = .returned (.int .u64 0) ∧ ∃ A', SZ w' g g ⟨true, [], 3, [⟨subM 0 1, 1⟩], 5, [mNV 33 5 1], true, 0⟩ A' ∧ Below g w w' from by
      refine (Hear_req w1 hz hm (hK.bel b1 (by omega)) (LE b1) rfl (by simp) (by simp) right_sub01 (by decide) rfl (by decide)).mono fun e w' hh => ?_
      obtain ⟨he, A', h1, h2⟩ := hh
      have ha : askedS ⟨true, [], 3, [], 5, [mNV 33 5 1], true, 0⟩ (subM 0 1) = (⟨true, [], 3, [⟨subM 0 1, 1⟩], 5, [mNV 33 5 1], true, 0⟩, 0) := by
        unfold askedS; rw [if_neg (by decide), if_neg (by decide), if_neg (by decide)]; rfl
      rw [ha] at he h1
      exact ⟨he, A', h1, b1.trans (h2.below hz (LE b1))⟩))
  have H3 := Lib.hid (fun (w1 : World) (A : SL) (s : ML) (hz : SZ w1 g g ⟨true, [], 3, [⟨subM 0 1, 1⟩], 5, [mNV 33 5 1], true, 0⟩ A) (b1 : Below g w w1) (hm : MR w1 (subM 4 2) s) =>
    (show Calls Tryd.prog 9 #[.pointer (some ⟨g, 0, none⟩), .agg (mgc (subM 4 2) s).toArray] w1 fun e w' => e = .returned (.int .u64 4) ∧ ∃ A', SZ w' g g ⟨true, [], 3, [⟨subM 0 1, 1⟩], 5, [mNV 33 5 1], true, 4⟩ A' ∧ Below g w w' from by
      refine (Hear_req w1 hz hm (hK.bel b1 (by omega)) (LE b1) rfl (by simp) (by simp) right_sub42 (by decide) rfl (by decide)).mono fun e w' hh => ?_
      obtain ⟨he, A', h1, h2⟩ := hh
      have ha : askedS ⟨true, [], 3, [⟨subM 0 1, 1⟩], 5, [mNV 33 5 1], true, 0⟩ (subM 4 2) = (⟨true, [], 3, [⟨subM 0 1, 1⟩], 5, [mNV 33 5 1], true, 0⟩, 4) := by
        unfold askedS; rw [if_pos (by decide)]
      rw [ha] at he h1
      exact ⟨he, A', h1, b1.trans (h2.below hz (LE b1))⟩))
  have HS := Lib.hid (fun (w1 : World) (b : Below g w w1) (w2 : World) (h : Below w1.heap.size w1 w2) => (b.trans (h.mono (LE b)) : Below g w w2))
  have HSB := Lib.hid (fun (w : World) => (show Calls Tryd.prog 15 #[.int .u64 0, .int .u64 1] w fun e w' => ∃ s, e = .returned (.agg (mgc (subM 0 1) s).toArray) ∧ MR w' (subM 0 1) s ∧ Below w.heap.size w w' from subscribe_any w 0 1 (by omega) (by omega)))
  have HSC := Lib.hid (fun (w : World) => (show Calls Tryd.prog 15 #[.int .u64 4, .int .u64 2] w fun e w' => ∃ s, e = .returned (.agg (mgc (subM 4 2) s).toArray) ∧ MR w' (subM 4 2) s ∧ Below w.heap.size w w' from subscribe_any w 4 2 (by omega) (by omega)))
  clear hN hK LE
  go_enter Tryd.func7, Tryd.ntmps7
  go_wp2_with (first
    | (go_at_call 8; refine HN.out.mono ?_; rintro y w1 ⟨rfl, z1, b1⟩; have Z1 := Lib.hid z1; have B1 := Lib.hid b1; clear z1 b1)
    | (go_at_call 9; (with_reducible refine (H1.out w1 Z1.out B1.out).mono ?_); rintro y w2 ⟨rfl, A2, z2, b2⟩; have Z2 := Lib.hid z2; have B2 := Lib.hid b2; clear z2 b2)
    | (go_at_call 15; (with_reducible refine (HSB.out w2).mono ?_); rintro y w3 ⟨s3, rfl, m3, b3⟩; have M3 := Lib.hid m3; have B3 := Lib.hid b3; clear m3 b3)
    | (go_at_call 9; (with_reducible refine (H2.out w3 A2 s3 (Z2.out.bel B3.out) (HS.out w2 B2.out w3 B3.out) M3.out).mono ?_); rintro y w4 ⟨rfl, A4, z4, b4⟩; have Z4 := Lib.hid z4; have B4 := Lib.hid b4; clear z4 b4)
    | (go_at_call 15; (with_reducible refine (HSC.out w4).mono ?_); rintro y w5 ⟨s5, rfl, m5, b5⟩; have M5 := Lib.hid m5; have B5 := Lib.hid b5; clear m5 b5)
    | (go_at_call 9; (with_reducible refine (H3.out w5 A4 s5 (Z4.out.bel B5.out) (HS.out w4 B4.out w5 B5.out) M5.out).mono ?_); rintro y w6 ⟨rfl, A6, z6, b6⟩; have Z6 := Lib.hid z6; have B6 := Lib.hid b6; clear z6 b6)
    | (go_at_call 10; (with_reducible refine (up_any Z6.out).mono ?_); rintro y w7 ⟨rfl, rfl⟩))
  go_ret
  exact ⟨rfl, B6.out⟩
end Go.Proofs.YtokgpnkooigamaaDoor
