/- the law's subscribe and awake. the law's awake: the document's example. talk: Hear of each Setup; what TalkSetups prepares. -/
import Derived.Test.YtokgpnkooigamaaDoorTX
import Derived.Test.YtokgpnkooigamaaDoorTY
import Derived.Lib.SmallJoins
set_option maxRecDepth 100000
set_option linter.unusedVariables false
namespace Go.Proofs.YtokgpnkooigamaaDoor
open Go.RowKit Go.Joins
/-- a Subscribe -/
def subM (id al : Nat) : MG := ⟨3, id, al, [116], 0, 1, 0, 0, 0, 0, false, 0, [], 0, 0, []⟩
/-- a ClientSetup -/
def cliM (vs : List Nat) (n : Nat) : MG := ⟨32, 0, 0, [], 0, 0, 0, 0, 0, 0, false, 0, [], n, 0, vs⟩
theorem BS_lit (w : World) (xs : List UInt8) (cs : Array Value) (fr : Nat × Nat) (h : cs = (xs.map B).toArray) (n : Nat) (hn : xs.length = n) (hm : n ≤ 140737488355328) {g : Nat} (hg : g = w.heap.size) : BS (w.alloc (.cells cs 5 fr)) (some ⟨g, 0, none⟩) n n xs := by
  subst hg h
  refine ⟨by simp [hn], Nat.le_refl _, by unfold maxLen; omega, one_B _, (fun h => by cases h), fun ad had => ?_⟩
  cases had
  refine ⟨fun _ => rfl, fun q v hq => ?_⟩
  rw [cell_alloc_mark_at w _ _ fr _ _ rfl]
  simpa using hq
set_option maxHeartbeats 4000000 in
theorem subscribe_any (w : World) (id al : Nat) (hi : id < 18446744073709551616) (ha : al < 18446744073709551616) :
    Calls Tryd.prog 15 #[.int .u64 (id : Int), .int .u64 (al : Int)] w fun e w' => ∃ s, e = .returned (.agg (mgc (subM id al) s).toArray) ∧ MR w' (subM id al) s ∧ Below w.heap.size w w' := by
  have hb1 := below_alloc w (.cells zmsg.toArray 31)
  have hZ := CR.new w 31 zmsg
  obtain ⟨k, hk⟩ : ∃ k, w.heap.size = k := ⟨_, rfl⟩
  unfold zmsg at hZ hb1
  obtain ⟨w1, hw1⟩ : ∃ x, w.alloc (.cells #[.int .u64 0, .int .u64 0, .int .u64 0, .slice none 0 0, .int .u8 0, .int .u8 0, .int .u64 0, .int .u64 0, .int .u64 0, .int .u64 0, .bool false, .int .u64 0, .slice none 0 0, .int .u64 0, .int .u64 0, .slice none 0 0] 31) = x := ⟨_, rfl⟩
  rw [hw1, hk] at hZ
  rw [hw1, hk] at hb1
  have hb2 := below_alloc w1 (.cells #[.int .u8 116] 5 (1, 2))
  have hn := BS_lit w1 [116] #[.int .u8 116] (1, 2) rfl 1 rfl (by omega) rfl
  have v1 := run_convert_bytes_const_at (P := Tryd.prog) w1 27 5 #[.int .u8 116] 1 1 w1.heap.size rfl Tryd.underlying27 Tryd.underlying5
  have hZ2 := hZ.bel hb2
  obtain ⟨w2, hw2⟩ : ∃ x, w1.alloc (.cells #[.int .u8 116] 5 (1, 2)) = x := ⟨_, rfl⟩
  obtain ⟨b, hbb⟩ : ∃ b, w1.heap.size = b := ⟨_, rfl⟩
  have v2 : (convert 27 27 (.slice (some ⟨w1.heap.size, 0, none⟩) 1 1)).run Tryd.prog (w1.alloc (.cells #[.int .u8 116] 5)) = .ok (.slice (some ⟨w1.heap.size, 0, none⟩) 1 1) (w1.alloc (.cells #[.int .u8 116] 5 (1, 2))) := v1
  rw [hw2] at hb2 hn hZ2 v2
  rw [hbb] at hn v2
  clear v1
  have hbk : b ≠ k := by have := hZ.lt; omega
  have HZ2 := Lib.hid (show CR w2 k 31 [.int .u64 0, .int .u64 0, .int .u64 0, .slice none 0 0, .int .u8 0, .int .u8 0, .int .u64 0, .int .u64 0, .int .u64 0, .int .u64 0, .bool false, .int .u64 0, .slice none 0 0, .int .u64 0, .int .u64 0, .slice none 0 0] from hZ2)
  have HBt := Lib.hid (show Below k w w2 from hb1.trans (hb2.mono (by have := hb1.size; omega)))
  have HN := Lib.hid hn
  have HI := Lib.hid hi
  have HA := Lib.hid ha
  have HBK := Lib.hid hbk
  clear hb1 hb2 hZ hZ2 hn hi ha hbk
  go_enter Tryd.func15, Tryd.ntmps15
  go_wp2_with (refine L_storeRow (old := [.int .u64 0, .int .u64 0, .int .u64 0, .slice none 0 0, .int .u8 0, .int .u8 0, .int .u64 0, .int .u64 0, .int .u64 0, .int .u64 0, .bool false, .int .u64 0, .slice none 0 0, .int .u64 0, .int .u64 0, .slice none 0 0]) (new := [.int .u64 3, .int .u64 (id : Int), .int .u64 (al : Int), .slice (some ⟨b, 0, none⟩) 1 1, .int .u8 0, .int .u8 1, .int .u64 0, .int .u64 0, .int .u64 0, .int .u64 0, .bool false, .int .u64 0, .slice none 0 0, .int .u64 0, .int .u64 0, .slice none 0 0]) rfl 31 _ _ rfl rfl rfl HZ2.out iMsg rfl rfl (by simp [Value.oneCell']) ?_; intro W6 hz hg3)
  refine bodyPost_ret_by (results_cell_row rfl _ _ _ _ _ _ _ rfl hz Tryd.underlying31 rfl iMsg) rfl ?_
  refine ⟨⟨⟨some ⟨b, 0, none⟩, 1, 1⟩, SA0, SA0⟩, by rfl, ⟨⟨by simp [subM], HI.out, HA.out, by simp [subM], by simp [subM], by simp [subM], by simp [subM], by simp [subM], by simp [subM], by simp [subM], by simp [subM], by simp [subM]⟩, ?_, RS_nil _ _, RS_nil _ _, by simp, by simp [SA0], by simp [SA0]⟩, ?_⟩
  · have h6 := HN.out.grown hg3 (fun ad had he => by cases had; injection he with he; exact HBK.out he)
    exact h6
  · rw [hk]
    exact HBt.out.grown hg3 (by rw [← hk]; exact HBt.out.size) (fun j hj => by cases hj; exact Nat.le_refl _)
theorem Hear_req (w : World) {base g : Nat} {S : SS} {A : SL} (h : SZ w base g S A) {m : MG} {s : ML} (hm : MR w m s) (hK : KA w) (hB : base ≤ w.heap.size) (hc : S.code = 0) (hl : S.their.length ≤ 1048576) (ho : S.out.length ≤ 1048576) (hr : rightM m = true) (hs : setupB S m = false) (hd : S.heard = true) (hq : requestS m.kind = true) :
    Calls Tryd.prog 9 #[.pointer (some ⟨g, 0, none⟩), .agg (mgc m s).toArray] w fun e w' => e = .returned (.int .u64 ((askedS S m).2 : Int)) ∧ ∃ A', SZ w' base g { (askedS S m).1 with code := (askedS S m).2 } A' ∧ SK w g A w' A' :=
  Hear_go h hm hK hB hc fun w1 s1 h1 m1 k1 b1 => hear_req h1 m1 k1 hl ho b1 hr hs hd hq
theorem Hear_s32 (w : World) {base g : Nat} {S : SS} {A : SL} (h : SZ w base g S A) {m : MG} {s : ML} (hm : MR w m s) (hK : KA w) (hB : base ≤ w.heap.size) (hc : S.code = 0) (hl : S.their.length ≤ 1048576) (ho : S.out.length ≤ 1048576) (hr : rightM m = true) (hd : S.heard = false) (hk : m.kind = 32) (hsrv : S.srv = true) (htl : S.tl < 18446744073709551616) (hv : m.vers.contains 1 = true) :
    Calls Tryd.prog 9 #[.pointer (some ⟨g, 0, none⟩), .agg (mgc m s).toArray] w fun e w' => e = .returned (.int .u64 ((0 : Nat) : Int)) ∧ ∃ A', SZ w' base g { S with heard := true, ol := min m.n 1152921504606846976, out := S.out ++ [mNV 33 S.tl 1], code := 0 } A' ∧ SK w g A w' A' :=
  Hear_go h hm hK hB hc fun w1 s1 h1 m1 k1 b1 => hear_s32 h1 m1 k1 hl ho b1 hr (by simp [setupB, hk, hsrv]) hd hk hsrv htl hv
theorem right_sub01 : rightM (subM 0 1) = true := by decide
theorem right_sub42 : rightM (subM 4 2) = true := by decide
theorem right_cli13 : rightM (cliM [1] 3) = true := by decide
end Go.Proofs.YtokgpnkooigamaaDoor
set_option maxRecDepth 100000
set_option linter.unusedVariables false
namespace Go.Proofs.YtokgpnkooigamaaDoor
open Go.RowKit
theorem SZ.cast {w : World} {base g : Nat} {S S' : SS} {A : SL} (h : SZ w base g S A) (he : S = S') : SZ w base g S' A := he ▸ h
set_option maxHeartbeats 8000000 in
theorem awake_any (w : World) (hK : KA w) :
    Calls Tryd.prog 7 #[] w fun e w' => e = .returned (.bool true) ∧ Below w.heap.size w w' := by
  have hN := new_srv w 5
  obtain ⟨g, hg⟩ : ∃ g, w.heap.size = g := ⟨_, rfl⟩
  rw [hg] at hN ⊢
  have HN := Lib.hid hN
  have LE : ∀ {x : World}, Below g w x → g ≤ x.heap.size := fun b => by rw [← hg]; exact b.size
  have H1 := Lib.hid (fun (w1 : World) (hz : SZ w1 g g (newS true 5) ⟨SA0, SA0, SA0, [], [], []⟩) (b1 : Below g w w1) =>
    (show Calls Tryd.prog 9 #[.pointer (some ⟨g, 0, none⟩), .agg #[.int .u64 32, .int .u64 0, .int .u64 0, .slice none 0 0, .int .u8 0, .int .u8 0, .int .u64 0, .int .u64 0, .int .u64 0, .int .u64 0, .bool false, .int .u64 0, .slice none 0 0, .int .u64 3, .int .u64 0, .slice (some ⟨w1.heap.size, 0, none⟩) 1 1]] (w1.alloc (.cells #[.int .u64 1] 23)) fun e w' => e = .returned (.int .u64 0) ∧ ∃ A', SZ w' g g ⟨true, [], 3, [], 5, [mNV 33 5 1], true, 0⟩ A' ∧ Below g w w' from by
      have hb := below_alloc w1 (.cells #[.int .u64 1] 23)
      have hz1 := hz.bel hb
      have b2 := b1.trans (hb.mono (LE b1))
      have hv := OW_made w1 0 23 1 #[.int .u64 1] 1 (Nat.zero_le _) rfl (by unfold maxLen; omega) (by simp [Value.oneCell'])
      have hm : MR (w1.alloc (.cells #[.int .u64 1] 23)) (cliM [1] 3) ⟨SA0, SA0, ⟨some ⟨w1.heap.size, 0, none⟩, 1, 1⟩⟩ :=
        ⟨⟨by simp [cliM], by simp [cliM], by simp [cliM], by simp [cliM], by simp [cliM], by simp [cliM], by simp [cliM], by simp [cliM], by simp [cliM], by simp [cliM], by simp [cliM], by simp [cliM]⟩, RS_nil _ _, RS_nil _ _, hv.rs, by simp [SA0], by simp [SA0], by simp⟩
      refine (Hear_s32 _ hz1 hm (hK.bel b2 (by omega)) (LE b2) rfl (by simp [newS]) (by simp [newS]) right_cli13 rfl rfl rfl (by simp [newS]) (by decide)).mono fun e w' hh => ?_
      obtain ⟨he, A', h1, h2⟩ := hh
      exact ⟨he, A', h1.cast (by simp [newS, cliM]), b2.trans (h2.below hz1 (LE b2))⟩))
  have H2 := Lib.hid (fun (w1 : World) (A : SL) (s : ML) (hz : SZ w1 g g ⟨true, [], 3, [], 5, [mNV 33 5 1], true, 0⟩ A) (b1 : Below g w w1) (hm : MR w1 (subM 0 1) s) =>
    (show Calls Tryd.prog 9 #[.pointer (some ⟨g, 0, none⟩), .agg (mgc (subM 0 1) s).toArray] w1 fun e w' => e = .returned (.int .u64 0) ∧ ∃ A', SZ w' g g ⟨true, [], 3, [⟨subM 0 1, 1⟩], 5, [mNV 33 5 1], true, 0⟩ A' ∧ Below g w w' from by
      refine (Hear_req w1 hz hm (hK.bel b1 (by omega)) (LE b1) rfl (by simp) (by simp) right_sub01 (by decide) rfl (by decide)).mono fun e w' hh => ?_
      obtain ⟨he, A', h1, h2⟩ := hh
      have ha : askedS ⟨true, [], 3, [], 5, [mNV 33 5 1], true, 0⟩ (subM 0 1) = (⟨true, [], 3, [⟨subM 0 1, 1⟩], 5, [mNV 33 5 1], true, 0⟩, 0) := by
        unfold askedS; rw [if_neg (by decide), if_neg (by decide), if_neg (by decide)]; rfl
      rw [ha] at he h1
      exact ⟨he, A', h1, b1.trans (h2.below hz (LE b1))⟩))
  have H3 := Lib.hid (fun (w1 : World) (A : SL) (s : ML) (hz : SZ w1 g g ⟨true, [], 3, [⟨subM 0 1, 1⟩], 5, [mNV 33 5 1], true, 0⟩ A) (b1 : Below g w w1) (hm : MR w1 (subM 4 2) s) =>
    (show Calls Tryd.prog 9 #[.pointer (some ⟨g, 0, none⟩), .agg (mgc (subM 4 2) s).toArray] w1 fun e w' => e = .returned (.int .u64 4) ∧ ∃ A', SZ w' g g ⟨true, [], 3, [⟨subM 0 1, 1⟩], 5, [mNV 33 5 1], true, 4⟩ A' ∧ Below g w w' from by
      refine (Hear_req w1 hz hm (hK.bel b1 (by omega)) (LE b1) rfl (by simp) (by simp) right_sub42 (by decide) rfl (by decide)).mono fun e w' hh => ?_
      obtain ⟨he, A', h1, h2⟩ := hh
      have ha : askedS ⟨true, [], 3, [⟨subM 0 1, 1⟩], 5, [mNV 33 5 1], true, 0⟩ (subM 4 2) = (⟨true, [], 3, [⟨subM 0 1, 1⟩], 5, [mNV 33 5 1], true, 0⟩, 4) := by
        unfold askedS; rw [if_pos (by decide)]
      rw [ha] at he h1
      exact ⟨he, A', h1, b1.trans (h2.below hz (LE b1))⟩))
  have HS := Lib.hid (fun (w1 : World) (b : Below g w w1) (w2 : World) (h : Below w1.heap.size w1 w2) => (b.trans (h.mono (LE b)) : Below g w w2))
  have HSB := Lib.hid (fun (w : World) => (show Calls Tryd.prog 15 #[.int .u64 0, .int .u64 1] w fun e w' => ∃ s, e = .returned (.agg (mgc (subM 0 1) s).toArray) ∧ MR w' (subM 0 1) s ∧ Below w.heap.size w w' from subscribe_any w 0 1 (by omega) (by omega)))
  have HSC := Lib.hid (fun (w : World) => (show Calls Tryd.prog 15 #[.int .u64 4, .int .u64 2] w fun e w' => ∃ s, e = .returned (.agg (mgc (subM 4 2) s).toArray) ∧ MR w' (subM 4 2) s ∧ Below w.heap.size w w' from subscribe_any w 4 2 (by omega) (by omega)))
  clear hN hK LE
  go_enter Tryd.func7, Tryd.ntmps7
  go_wp2_with (first
    | (go_at_call 8; refine HN.out.mono ?_; rintro y w1 ⟨rfl, z1, b1⟩; have Z1 := Lib.hid z1; have B1 := Lib.hid b1; clear z1 b1)
    | (go_at_call 9; (with_reducible refine (H1.out w1 Z1.out B1.out).mono ?_); rintro y w2 ⟨rfl, A2, z2, b2⟩; have Z2 := Lib.hid z2; have B2 := Lib.hid b2; clear z2 b2)
    | (go_at_call 15; (with_reducible refine (HSB.out w2).mono ?_); rintro y w3 ⟨s3, rfl, m3, b3⟩; have M3 := Lib.hid m3; have B3 := Lib.hid b3; clear m3 b3)
    | (go_at_call 9; (with_reducible refine (H2.out w3 A2 s3 (Z2.out.bel B3.out) (HS.out w2 B2.out w3 B3.out) M3.out).mono ?_); rintro y w4 ⟨rfl, A4, z4, b4⟩; have Z4 := Lib.hid z4; have B4 := Lib.hid b4; clear z4 b4)
    | (go_at_call 15; (with_reducible refine (HSC.out w4).mono ?_); rintro y w5 ⟨s5, rfl, m5, b5⟩; have M5 := Lib.hid m5; have B5 := Lib.hid b5; clear m5 b5)
    | (go_at_call 9; (with_reducible refine (H3.out w5 A4 s5 (Z4.out.bel B5.out) (HS.out w4 B4.out w5 B5.out) M5.out).mono ?_); rintro y w6 ⟨rfl, A6, z6, b6⟩; have Z6 := Lib.hid z6; have B6 := Lib.hid b6; clear z6 b6)
    | (go_at_call 10; (with_reducible refine (up_any Z6.out).mono ?_); rintro y w7 ⟨rfl, rfl⟩))
  go_ret
  exact ⟨rfl, B6.out⟩
end Go.Proofs.YtokgpnkooigamaaDoor
set_option maxRecDepth 100000
set_option linter.unusedVariables false
namespace Go.Proofs.YtokgpnkooigamaaDoor
open Go.RowKit
section
variable {w : World} {base g : Nat} {S : SS} {A : SL} {m : MG} {s : ML}
theorem nochange {c : Nat} {e : Ending} {w1 w' : World} (h1 : SZ w1 base g S A) (hh : e = .returned (.int .u64 (c : Int)) ∧ Below w1.heap.size w1 w') : e = .returned (.int .u64 (c : Int)) ∧ ∃ A', SZ w' base g S A' ∧ SK w1 g A w' A' := ⟨hh.1, A, h1.bel hh.2, SK.bel hh.2⟩
theorem Hear_wrong (h : SZ w base g S A) (hm : MR w m s) (hK : KA w) (hB : base ≤ w.heap.size) (hc : S.code = 0) (hl : S.their.length ≤ 1048576) (ho : S.out.length ≤ 1048576) (hr : rightM m = false) :
    Calls Tryd.prog 9 #[.pointer (some ⟨g, 0, none⟩), .agg (mgc m s).toArray] w fun e w' => e = .returned (.int .u64 ((3 : Nat) : Int)) ∧ ∃ A', SZ w' base g { S with code := 3 } A' ∧ SK w g A w' A' :=
  Hear_go h hm hK hB hc fun w1 s1 h1 m1 k1 b1 => (hear_wrong h1 m1 k1 hl ho b1 hr).mono fun e w' hh => nochange (c := 3) h1 hh
theorem Hear_twice (h : SZ w base g S A) (hm : MR w m s) (hK : KA w) (hB : base ≤ w.heap.size) (hc : S.code = 0) (hl : S.their.length ≤ 1048576) (ho : S.out.length ≤ 1048576) (hr : rightM m = true) (hs : setupB S m = true) (hd : S.heard = true) :
    Calls Tryd.prog 9 #[.pointer (some ⟨g, 0, none⟩), .agg (mgc m s).toArray] w fun e w' => e = .returned (.int .u64 ((3 : Nat) : Int)) ∧ ∃ A', SZ w' base g { S with code := 3 } A' ∧ SK w g A w' A' :=
  Hear_go h hm hK hB hc fun w1 s1 h1 m1 k1 b1 => (hear_twice_true h1 m1 k1 hl ho b1 hr hs hd).mono fun e w' hh => nochange (c := 3) h1 hh
theorem Hear_v32 (h : SZ w base g S A) (hm : MR w m s) (hK : KA w) (hB : base ≤ w.heap.size) (hc : S.code = 0) (hl : S.their.length ≤ 1048576) (ho : S.out.length ≤ 1048576) (hr : rightM m = true) (hd : S.heard = false) (hk : m.kind = 32) (hsrv : S.srv = true) (hv : m.vers.contains 1 = false) :
    Calls Tryd.prog 9 #[.pointer (some ⟨g, 0, none⟩), .agg (mgc m s).toArray] w fun e w' => e = .returned (.int .u64 ((21 : Nat) : Int)) ∧ ∃ A', SZ w' base g { S with code := 21 } A' ∧ SK w g A w' A' :=
  Hear_go h hm hK hB hc fun w1 s1 h1 m1 k1 b1 => (hear_v32 h1 m1 k1 hl ho b1 hr (by simp [setupB, hk, hsrv]) hd hk hv).mono fun e w' hh => nochange (c := 21) h1 hh
theorem Hear_v33 (h : SZ w base g S A) (hm : MR w m s) (hK : KA w) (hB : base ≤ w.heap.size) (hc : S.code = 0) (hl : S.their.length ≤ 1048576) (ho : S.out.length ≤ 1048576) (hr : rightM m = true) (hd : S.heard = false) (hk : m.kind = 33) (hsrv : S.srv = false) (hv : m.ver ≠ 1) :
    Calls Tryd.prog 9 #[.pointer (some ⟨g, 0, none⟩), .agg (mgc m s).toArray] w fun e w' => e = .returned (.int .u64 ((21 : Nat) : Int)) ∧ ∃ A', SZ w' base g { S with code := 21 } A' ∧ SK w g A w' A' :=
  Hear_go h hm hK hB hc fun w1 s1 h1 m1 k1 b1 => (hear_v33 h1 m1 k1 hl ho b1 hr (by simp [setupB, hk, hsrv]) hd hk hv).mono fun e w' hh => nochange (c := 21) h1 hh
theorem Hear_s33 (h : SZ w base g S A) (hm : MR w m s) (hK : KA w) (hB : base ≤ w.heap.size) (hc : S.code = 0) (hl : S.their.length ≤ 1048576) (ho : S.out.length ≤ 1048576) (hr : rightM m = true) (hd : S.heard = false) (hk : m.kind = 33) (hsrv : S.srv = false) (hv : m.ver = 1) :
    Calls Tryd.prog 9 #[.pointer (some ⟨g, 0, none⟩), .agg (mgc m s).toArray] w fun e w' => e = .returned (.int .u64 ((0 : Nat) : Int)) ∧ ∃ A', SZ w' base g { S with heard := true, ol := min m.n 1152921504606846976, code := 0 } A' ∧ SK w g A w' A' :=
  Hear_go h hm hK hB hc fun w1 s1 h1 m1 k1 b1 => hear_s33 h1 m1 k1 hl ho b1 hr (by simp [setupB, hk, hsrv]) hd hk hsrv hv
end
theorem minI (W : World) (ts : Array TypeId) (t : TypeId) (a b : Nat) : (Builtin.min_ ts t #[.int .i64 (a : Int), .int .i64 (b : Int)]).run Tryd.prog W = .ok (.int .i64 ((min a b : Nat) : Int)) W := by
  have : (Builtin.min_ ts t #[.int .i64 (a : Int), .int .i64 (b : Int)]).run Tryd.prog W = .ok (.int .i64 (if (b : Int) < (a : Int) then (b : Int) else (a : Int))) W := by
    simp [Builtin.min_, Builtin.min2]
  rw [this]
  congr 2
  split <;> omega
theorem L_minI {w : World} {ops : Array Oper} {rest : List Oper} {o : Oper} {f : Act} {Q : Exit → Act → World → Prop} {ts : Array TypeId} {x : Operand} {c : Int} (hop : o.op = .call { callee := .builtin .min, args := #[x, .const (.int .i64 c)], argTypes := ts }) (a b X : Nat) (hX : min a b = X) (hc : c = (b : Int)) (e1 : f.eval x = .int .i64 (a : Int)) (hg : Region.wanted o (yielded ops f.tmps) = true)
    (h : wpList Tryd.prog ops Q rest (f.put o.dst (.int .i64 (X : Int))) w) : wpList Tryd.prog ops Q (o :: rest) f w := by
  subst hc
  refine wpList_on hg fun K hK => ?_
  have e2 : f.eval (.const (.int .i64 (b : Int))) = .int .i64 (b : Int) := rfl
  unfold Oper.wp
  simp only [execOp, hop, resolve, invoke, builtin, Sem.run_bind, Sem.run_pure, Result.andThen_ok, List.map_toArray, List.map_cons, List.map_nil, e1, e2, minI]
  rw [hX]
  exact hK _ _ h
/-- the first i of them by the rest of five -/
def modI (xs : List Nat) (i : Nat) : List Nat := (xs.take i).map (· % 5) ++ xs.drop i
theorem modI_len (xs : List Nat) (i : Nat) : (modI xs i).length = xs.length := by
  simp [modI]; omega
theorem modI_get {xs : List Nat} {i x : Nat} (h : xs[i]? = some x) : (modI xs i)[i]? = some x := by
  have hl := (List.getElem?_eq_some_iff.1 h).1
  unfold modI
  rw [List.getElem?_append_right (by simp; omega)]
  simp only [List.length_map, List.length_take, Nat.min_eq_left (Nat.le_of_lt hl), Nat.sub_self, List.getElem?_drop, Nat.add_zero]
  exact h
theorem modI_set {xs : List Nat} {i x : Nat} (h : xs[i]? = some x) : (modI xs i).set i (x % 5) = modI xs (i + 1) := by
  obtain ⟨hl, he⟩ := List.getElem?_eq_some_iff.1 h
  unfold modI
  rw [List.set_append_right _ _ (by simp; omega)]
  simp only [List.length_map, List.length_take, Nat.min_eq_left (Nat.le_of_lt hl), Nat.sub_self]
  rw [List.drop_eq_getElem_cons hl, List.set_cons_zero, List.take_succ_eq_append_getElem hl, List.map_append, List.append_assoc, he]
  rfl
theorem modI_0 (xs : List Nat) : modI xs 0 = xs := by simp [modI]
theorem modI_all (xs : List Nat) (i : Nat) (h : xs.length ≤ i) : modI xs i = xs.map (· % 5) := by
  unfold modI; rw [List.take_of_length_le h, List.drop_of_length_le h, List.append_nil]
def anyI (xs : List Nat) (i : Nat) : Bool := (xs.take i).any (fun x => x % 5 == 1)
theorem anyI_step {xs : List Nat} {i x : Nat} (h : xs[i]? = some x) : anyI xs (i + 1) = (anyI xs i || (x % 5 == 1)) := by
  obtain ⟨hl, he⟩ := List.getElem?_eq_some_iff.1 h
  unfold anyI
  rw [List.take_succ_eq_append_getElem hl, List.any_append, he]
  simp
theorem anyI_all (xs : List Nat) (i : Nat) (h : xs.length ≤ i) : anyI xs i = (xs.map (· % 5)).contains 1 := by
  unfold anyI
  rw [List.take_of_length_le h]
  induction xs with
  | nil => rfl
  | cons x r ih =>
    rw [List.any_cons, List.map_cons, List.contains_cons]
    have : ((1 : Nat) == x % 5) = (x % 5 == 1) := by rw [Bool.beq_comm]
    rw [this]
    congr 1
    cases i with
    | zero => simp at h
    | succ j => exact ih (by simp at h; omega)
theorem rightM_of {m : MG} {p : Nat} (hp : partsS m.kind = some p) : rightM m = (emptyM (bareM p m) && decide (m.reason.length ≤ 64) && decide (maxM m ≤ 4611686018427387903) && okM p m) := by
  unfold rightM; rw [hp]
theorem right_33 (n v : Nat) (hn : n ≤ 4611686018427387903) (hv : v ≤ 4611686018427387903) : rightM (mNV 33 n v) = true := by
  have hp : partsS 33 = some 6144 := by decide
  rw [rightM_of (m := mNV 33 n v) hp]
  simp only [Bool.and_eq_true, decide_eq_true_eq]
  refine ⟨⟨⟨?_, ?_⟩, ?_⟩, ?_⟩
  · simp [emptyM, bareM, mNV, bit]
  · simp [mNV]
  · simp only [maxM, mNV]; omega
  · simp [okM, bit]
theorem maxI_le (xs : List Nat) (M : Nat) (h : ∀ x ∈ xs, x ≤ M) : ∀ n, maxI xs n ≤ M
  | 0 => Nat.zero_le _
  | n + 1 => by
    rw [maxI]
    have h1 := maxI_le xs M h n
    have h2 : xs.getD n 0 ≤ M := by
      rw [List.getD_eq_getElem?_getD]
      cases hx : xs[n]? with
      | none => exact Nat.zero_le _
      | some x => exact h x (List.mem_of_getElem? hx)
    omega
theorem right_32 (vs : List Nat) (n : Nat) (hn : n ≤ 4611686018427387903) (h0 : 0 < vs.length) (h8 : vs.length ≤ 8) (hv : ∀ x ∈ vs, x ≤ 4611686018427387903) : rightM (cliM vs n) = true := by
  have hp : partsS 32 = some 10240 := by decide
  rw [rightM_of (m := cliM vs n) hp]
  simp only [Bool.and_eq_true, decide_eq_true_eq]
  refine ⟨⟨⟨?_, ?_⟩, ?_⟩, ?_⟩
  · simp [emptyM, bareM, cliM, bit]
  · simp [cliM]
  · simp only [maxM, cliM]; omega
  · have hm := maxI_le vs _ hv vs.length
    simp [okM, bit, listB, cliM, h8, hm]
    first | exact h0 | exact ⟨h0, h8⟩ | exact ⟨h0, hm⟩ | (intro hh; rw [hh] at h0; simp at h0) | omega
theorem wrong_32 (n : Nat) : rightM (cliM [] n) = false := by
  have hp : partsS 32 = some 10240 := by decide
  rw [rightM_of (m := cliM [] n) hp]
  simp [okM, bit, listB, cliM]
end Go.Proofs.YtokgpnkooigamaaDoor
