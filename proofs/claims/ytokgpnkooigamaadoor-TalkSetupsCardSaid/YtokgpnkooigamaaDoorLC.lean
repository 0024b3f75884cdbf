/- TalkSetups: its walk. -/
import Derived.Test.YtokgpnkooigamaaDoorLB
set_option maxRecDepth 100000
set_option linter.unusedVariables false
namespace Go.Proofs.YtokgpnkooigamaaDoor
open Go.RowKit
set_option maxHeartbeats 16000000 in
theorem talkSetups_walk (w : World) (srv : Bool) {a : Option Addr} {n c : Nat} {xs : List Nat} (hx : RS w 1 a n c (US xs)) (v nn : Nat) (hv : v < 18446744073709551616) (hnn : nn < 18446744073709551616) (hxb : ∀ x ∈ xs, x < 18446744073709551616) (hK : KA w) :
    Calls Tryd.prog 3 #[.bool srv, .slice a n c, .int .u64 (v : Int), .int .u64 (nn : Int)] w fun e w' => e = .returned (.bool true) ∧ Below w.heap.size w w' := by
  have hxl : xs.length = n := by have := hx.len; simpa [US] using this
  have hcm := hx.max
  have hle := hx.le
  unfold maxLen at hcm
  obtain ⟨k, hk⟩ : ∃ k, min n 8 = k := ⟨_, rfl⟩
  have hkn : k ≤ n := by omega
  have hk8 : k ≤ 8 := by omega
  obtain ⟨ys, hys⟩ : ∃ ys, xs.take k = ys := ⟨_, rfl⟩
  have hyl : ys.length = k := by rw [← hys, List.length_take]; omega
  have hyb : ∀ y ∈ ys, y < 18446744073709551616 := fun y hy => hxb y (by rw [← hys] at hy; exact List.mem_of_mem_take hy)
  have hcut : (US xs).take (k * 1) = US ys := by unfold US; rw [← hys, Nat.mul_one, List.map_take]
  have HX := Lib.hid hx
  have HK := Lib.hid hK
  have HA := Lib.hid (awake_any w hK)
  have HMN := Lib.hid hk
  have HCut := Lib.hid hcut
  have HYL := Lib.hid hyl
  have HYB := Lib.hid hyb
  have HV := Lib.hid hv
  have HNN := Lib.hid hnn
  clear hx hK hk hys hyl hyb hcut hxl hxb hv hnn
  go_enter Tryd.func3, Tryd.ntmps3
  go_upto_region 3 with (go_at_call 7; refine HA.out.mono ?_; rintro y w1 ⟨rfl, b1⟩; have B1 := Lib.hid b1; clear b1)
  have hO := OW_empty w1 w1.heap.size 23 1 (Nat.le_refl _)
  have hx1 := RS.alloc (HX.out.below B1.out (Nat.le_refl _)) (.cells #[] 23)
  have HO := Lib.hid hO
  have HX1 := Lib.hid hx1
  clear hO hx1 HA
  go_upto_region 6 with (first
    | (refine L_minI rfl n 8 k HMN.out rfl rfl (by rfl) ?_)
    | (refine L_slice_h t64 HX1.out k _ _ rfl rfl .i64 _ rfl rfl rfl hkn ?_; intro hr; rw [HCut.out] at hr; have HR := Lib.hid hr; clear hr)
    | (at_builtin; refine L_append t64 HO.out HR.out _ _ rfl rfl rfl rfl (by omega) (by unfold maxLen; omega) (by simp) ?_; intro a2 c2 w2 o2 g2; have hb2 := below_own (below_alloc w1 (.cells #[] 23)) HO.out g2 (Nat.le_refl _) (by simp); have HO2 := Lib.hid o2; have HB2 := Lib.hid hb2; clear o2 g2 hb2))
  have hv5 : (v : Int) % 5 = ((v % 5 : Nat) : Int) := by omega
  have hn62 : (nn : Int) % 4611686018427387904 = ((nn % 4611686018427387904 : Nat) : Int) := by omega
  rw [hv5, hn62]
  obtain ⟨v5, hv5b⟩ : ∃ x, v % 5 = x := ⟨_, rfl⟩
  obtain ⟨n62, hn62b⟩ : ∃ x, nn % 4611686018427387904 = x := ⟨_, rfl⟩
  rw [hv5b, hn62b]
  have HV5 := Lib.hid (show v5 < 5 by omega)
  have HN62 := Lib.hid (show n62 ≤ 4611686018427387903 by omega)
  clear hv5 hn62 hv5b hn62b
  have HS := Lib.hid (show ∃ i : Nat, i ≤ k ∧ Value.int .i64 (0 : Int) = .int .i64 (i : Int) ∧ Value.bool false = .bool (anyI ys i) ∧ OW w2 w1.heap.size 23 1 a2 k c2 (US (modI ys i)) ∧ Below w1.heap.size w1 w2 from ⟨0, by omega, rfl, rfl, by rw [modI_0]; have := HO2.out; simpa using this, HB2.out⟩)
  have e0k : ((0 + k : Nat)) = k := by omega
  clear HO2 HB2 HR HX1 HO HX HCut
  go_wp2_with fail
  go_loopw [30, 9] (fun s30 s9 wr => ∃ i : Nat, i ≤ k ∧ s30 = .int .i64 (i : Int) ∧ s9 = .bool (anyI ys i) ∧ OW wr w1.heap.size 23 1 a2 k c2 (US (modI ys i)) ∧ Below w1.heap.size w1 wr) (fun s30 _ _ => match s30 with | .int _ x => (k - x).toNat | _ => 0)
  case atStart => exact HS.out
  case round =>
    clear HS
    obtain ⟨i, hi, rfl, rfl, ho, hb⟩ := hrel
    have HO := Lib.hid ho
    have HB := Lib.hid hb
    clear ho hb
    by_cases hik : i = k
    · subst hik
      obtain ⟨zs, hzs⟩ : ∃ zs, ys.map (· % 5) = zs := ⟨_, rfl⟩
      have hzl : zs.length = i := by rw [← hzs, List.length_map]; exact HYL.out
      have hzb : ∀ x ∈ zs, x < 5 := fun x hx => by
        rw [← hzs] at hx
        obtain ⟨y, _, rfl⟩ := List.mem_map.1 hx
        exact Nat.mod_lt _ (by omega)
      have ho2 := HO.out
      rw [modI_all ys i (by rw [HYL.out]; exact Nat.le_refl _), hzs] at ho2
      rw [anyI_all ys i (by rw [HYL.out]; exact Nat.le_refl _), hzs]
      have HOz := Lib.hid ho2
      have HZL := Lib.hid hzl
      have HZB := Lib.hid hzb
      have hbw : Below w.heap.size w wr := B1.out.trans (HB.out.mono B1.out.size)
      have HKr := Lib.hid (HK.out.bel hbw (Nat.le_refl _))
      have HBw := Lib.hid hbw
      have hlt2 : ∀ ad, a2 = some ad → ad.block < wr.heap.size := fun ad had => (ho2.base_le had).2
      have HLT := Lib.hid hlt2
      obtain ⟨g, hg⟩ : ∃ g, wr.heap.size = g := ⟨_, rfl⟩
      rw [hg] at HLT
      have HG := Lib.hid hg
      clear ho2 hzl hzb hbw hlt2 hzs HO HB HK B1
      obtain ⟨one, hone⟩ : ∃ b, zs.contains 1 = b := ⟨_, rfl⟩
      rw [hone]
      have HONE := Lib.hid hone
      clear hone
      cases srv with
      | true =>
        have hnew := new_srv wr 3
        rw [hg] at hnew
        have HNW := Lib.hid hnew
        clear hnew
        go_upto_region 13 with (go_at_call 8; refine HNW.out.mono ?_; rintro y w3 ⟨rfl, z3, b3⟩; have Z3 := Lib.hid z3; have B3 := Lib.hid b3; clear z3 b3)
        obtain ⟨kb, hkb⟩ : ∃ kb, w3.heap.size = kb := ⟨_, rfl⟩
        have hb4 := below_alloc w3 (.cells #[.int .u64 0, .int .u64 0, .int .u64 0, .slice none 0 0, .int .u8 0, .int .u8 0, .int .u64 0, .int .u64 0, .int .u64 0, .int .u64 0, .bool false, .int .u64 0, .slice none 0 0, .int .u64 0, .int .u64 0, .slice none 0 0] 31)
        have hr4 := CR.new w3 31 [.int .u64 0, .int .u64 0, .int .u64 0, .slice none 0 0, .int .u8 0, .int .u8 0, .int .u64 0, .int .u64 0, .int .u64 0, .int .u64 0, .bool false, .int .u64 0, .slice none 0 0, .int .u64 0, .int .u64 0, .slice none 0 0]
        obtain ⟨w4, hw4⟩ : ∃ x, w3.alloc (.cells #[.int .u64 0, .int .u64 0, .int .u64 0, .slice none 0 0, .int .u8 0, .int .u8 0, .int .u64 0, .int .u64 0, .int .u64 0, .int .u64 0, .bool false, .int .u64 0, .slice none 0 0, .int .u64 0, .int .u64 0, .slice none 0 0] 31) = x := ⟨_, rfl⟩
        rw [hw4, hkb] at hr4
        rw [hw4, hkb] at hb4
        have HR4 := Lib.hid (show CR w4 kb 31 [.int .u64 0, .int .u64 0, .int .u64 0, .slice none 0 0, .int .u8 0, .int .u8 0, .int .u64 0, .int .u64 0, .int .u64 0, .int .u64 0, .bool false, .int .u64 0, .slice none 0 0, .int .u64 0, .int .u64 0, .slice none 0 0] from hr4)
        have HB4 := Lib.hid hb4
        have HKB := Lib.hid hkb
        clear hr4 hb4
        go_upto_region 18 with (first
          | (refine L_storeRow (old := [.int .u64 0, .int .u64 0, .int .u64 0, .slice none 0 0, .int .u8 0, .int .u8 0, .int .u64 0, .int .u64 0, .int .u64 0, .int .u64 0, .bool false, .int .u64 0, .slice none 0 0, .int .u64 0, .int .u64 0, .slice none 0 0]) (new := [.int .u64 33, .int .u64 0, .int .u64 0, .slice none 0 0, .int .u8 0, .int .u8 0, .int .u64 0, .int .u64 0, .int .u64 0, .int .u64 0, .bool false, .int .u64 0, .slice none 0 0, .int .u64 (n62 : Int), .int .u64 (v5 : Int), .slice none 0 0]) rfl 31 _ _ rfl rfl rfl HR4.out iMsg rfl rfl (by simp [Value.oneCell']) ?_; intro w5 hz5 hg5; have HZ5 := Lib.hid hz5; have HG5 := Lib.hid hg5; clear hz5 hg5)
          | (refine L_storeRow (old := [.int .u64 33, .int .u64 0, .int .u64 0, .slice none 0 0, .int .u8 0, .int .u8 0, .int .u64 0, .int .u64 0, .int .u64 0, .int .u64 0, .bool false, .int .u64 0, .slice none 0 0, .int .u64 (n62 : Int), .int .u64 (v5 : Int), .slice none 0 0]) (new := [.int .u64 32, .int .u64 0, .int .u64 0, .slice none 0 0, .int .u8 0, .int .u8 0, .int .u64 0, .int .u64 0, .int .u64 0, .int .u64 0, .bool false, .int .u64 0, .slice none 0 0, .int .u64 (n62 : Int), .int .u64 0, .slice a2 i c2]) rfl 31 _ _ rfl rfl rfl HZ5.out iMsg rfl rfl (by simp [Value.oneCell']) ?_; intro w6 hz6 hg6; have HZ6 := Lib.hid hz6; have HG6 := Lib.hid hg6; clear hz6 hg6))
        have hbW : Below kb w3 w6 := ((HB4.out.grown HG5.out (by have := HB4.out.size; have := HKB.out; omega) (fun q hq => by cases hq; exact Nat.le_refl _)).grown HG6.out (by have := HG5.out.size; have := HB4.out.size; have := HKB.out; omega) (fun q hq => by cases hq; exact Nat.le_refl _))
        have hkb2 := HKB.out
        have hgk : g < kb := by have := Z3.out.row.lt; omega
        have hz6 : SZ w6 g g (newS true 3) ⟨SA0, SA0, SA0, [], [], []⟩ := Z3.out.bel (by rw [hkb2]; exact hbW)
        have hr6 : CR w6 kb 31 [.int .u64 32, .int .u64 0, .int .u64 0, .slice none 0 0, .int .u8 0, .int .u8 0, .int .u64 0, .int .u64 0, .int .u64 0, .int .u64 0, .bool false, .int .u64 0, .slice none 0 0, .int .u64 (n62 : Int), .int .u64 0, .slice a2 i c2] := HZ6.out
        have hfp : ¬ FP g ⟨SA0, SA0, SA0, [], [], []⟩ kb := fun hf => by have := (Z3.out.fp_ge hf).2; omega
        have hK6 : KA w6 := (HKr.out.bel B3.out (by rw [HG.out]; exact Nat.le_refl _)).bel hbW (by rw [hkb2]; exact Nat.le_refl _)
        have hB3s : g ≤ w3.heap.size := by omega
        have hbt : Below w.heap.size w w6 := (HBw.out.trans (B3.out.mono (by have := HBw.out.size; have := HG.out; omega))).trans (hbW.mono (by have := HBw.out.size; have := HG.out; omega))
        have hg6s : g ≤ w6.heap.size := by have := hbW.size; omega
        have hm6 : MR w6 (cliM zs n62) ⟨SA0, SA0, ⟨a2, i, c2⟩⟩ := ⟨⟨by simp [cliM], by simp [cliM], by simp [cliM], by simp [cliM], by simp [cliM], by simp [cliM], by simp [cliM], by simp [cliM], by simp [cliM], by simp [cliM], by have := HN62.out; simp [cliM]; omega, by simp [cliM]⟩, RS_nil _ _, RS_nil _ _, ((HOz.out.old B3.out HLT.out).old hbW (fun ad had => by have := HLT.out ad had; omega)).rs, by simp [SA0], by simp [SA0], by simp; omega⟩
        have hmN : ∀ x, Below g w6 x → MR x (cliM zs n62) ⟨SA0, SA0, ⟨a2, i, c2⟩⟩ := fun x hb => ⟨hm6.b, RS_nil _ _, RS_nil _ _, (((HOz.out.old B3.out HLT.out).old hbW (fun ad had => by have := HLT.out ad had; omega)).old hb HLT.out).rs, by simp [SA0], by simp [SA0], by simp; omega⟩
        have HRG := Lib.hid hr6.rng
        have HBT := Lib.hid hbt
        by_cases hi0 : i = 0
        · have hz0 : zs = [] := List.eq_nil_of_length_eq_zero (by rw [HZL.out]; exact hi0)
          have hh := Hear_wrong hz6 hm6 hK6 hg6s rfl (by simp [newS]) (by simp [newS]) (by rw [hz0]; exact wrong_32 n62)
          have hh2 : Calls Tryd.prog 9 #[.pointer (some ⟨g, 0, none⟩), .agg ([.int .u64 32, .int .u64 0, .int .u64 0, .slice none 0 0, .int .u8 0, .int .u8 0, .int .u64 0, .int .u64 0, .int .u64 0, .int .u64 0, .bool false, .int .u64 0, .slice none 0 0, .int .u64 (n62 : Int), .int .u64 0, .slice a2 i c2] : List Value).toArray] w6 fun e w' => e = .returned (.int .u64 3) ∧ ∃ A', SZ w' g g { newS true 3 with code := 3 } A' ∧ Below g w6 w' := hh.mono fun e w' ⟨h1, A', h2, h3⟩ => ⟨h1, A', h2, h3.below hz6 hg6s⟩
          have HH := Lib.hid hh2
          have q0 : ((i : Int) == 0) = true := by simp; omega
          clear hh hh2 hz0 hi0 hm6 hmN hz6 hr6 hfp hK6 hB3s hbt hg6s hbW hkb2 hgk hw4
          go_wp2_with (first
            | (refine L_loadG 31 _ rfl (by rfl) _ _ rfl _ _ HRG.out Tryd.underlying31 rfl iMsg ?_)
            | (go_at_call 9; refine HH.out.mono ?_; rintro y w7 ⟨rfl, A7, z7, b7⟩; have Z7 := Lib.hid z7; have B7 := Lib.hid b7; clear z7 b7)
            | (go_at_call 10; (with_reducible refine (up_any Z7.out).mono ?_); rintro y w8 ⟨rfl, rfl⟩))
          go_ret
          exact ⟨rfl, HBT.out.trans (B7.out.mono (by have := HBw.out.size; have := HG.out; omega))⟩
        · have q0 : ((i : Int) == 0) = false := by simp; omega
          have hr32 : rightM (cliM zs n62) = true := right_32 zs n62 HN62.out (by rw [HZL.out]; omega) (by rw [HZL.out]; omega) (fun x hx => by have := HZB.out x hx; omega)
          cases one with
          | true =>
            have hh := Hear_s32 w6 hz6 hm6 hK6 hg6s rfl (by simp [newS]) (by simp [newS]) hr32 rfl rfl rfl (by simp [newS]) HONE.out
            have hh2 : Calls Tryd.prog 9 #[.pointer (some ⟨g, 0, none⟩), .agg ([.int .u64 32, .int .u64 0, .int .u64 0, .slice none 0 0, .int .u8 0, .int .u8 0, .int .u64 0, .int .u64 0, .int .u64 0, .int .u64 0, .bool false, .int .u64 0, .slice none 0 0, .int .u64 (n62 : Int), .int .u64 0, .slice a2 i c2] : List Value).toArray] w6 fun e w' => e = .returned (.int .u64 0) ∧ ∃ A' S', S'.srv = true ∧ S'.heard = true ∧ S'.code = 0 ∧ S'.their.length ≤ 1048576 ∧ S'.out.length ≤ 1048576 ∧ SZ w' g g S' A' ∧ Below g w6 w' ∧ w'.rangeAt kb 0 ([.int .u64 32, .int .u64 0, .int .u64 0, .slice none 0 0, .int .u8 0, .int .u8 0, .int .u64 0, .int .u64 0, .int .u64 0, .int .u64 0, .bool false, .int .u64 0, .slice none 0 0, .int .u64 (n62 : Int), .int .u64 0, .slice a2 i c2] : List Value) := hh.mono fun e w' ⟨h1, A', h2, h3⟩ => ⟨h1, A', _, rfl, rfl, rfl, by simp [newS], by simp [newS], h2, h3.below hz6 hg6s, (hr6.keep (h3.keep kb hr6.lt hfp)).rng⟩
            have HH := Lib.hid hh2
            have HMN := Lib.hid hmN
            have HK6 := Lib.hid hK6
            have HR32 := Lib.hid hr32
            have HG6 := Lib.hid hg6s
            clear hh hh2 hi0 hm6 hmN hz6 hr6 hfp hK6 hB3s hbt hg6s hbW hkb2 hgk hw4 hr32
            go_upto_region 21 with (first
              | (refine L_loadG 31 _ rfl (by rfl) _ _ rfl _ _ HRG.out Tryd.underlying31 rfl iMsg ?_)
              | (go_at_call 9; refine HH.out.mono ?_; rintro y w7 ⟨rfl, A7, S7, e1, e2, e3, e4, e5, z7, b7, r7⟩))
            have hK7 := HK6.out
            have hh3 := Hear_twice z7 (HMN.out w7 b7) (by
              have hb9 := b7
              exact fun j x hx i2 v hv => by
                have h1 := HKr.out j x hx i2 v hv
                have h2 := HK6.out j x hx i2 v hv
                have hlt : 0 < g := by have := HKr.out.lt; have := HG.out; omega
                exact (b7.cell (p := ⟨0, 2 * j + i2, none⟩) hlt).trans h2) (Nat.le_trans HG6.out b7.size) e3 e4 e5 HR32.out (by simp [setupB, cliM, e1]) e2
            have hu7 := up_any z7
            rw [show upS S7 = true by unfold upS; rw [e2, e3]; rfl] at hu7
            have hh4 : Calls Tryd.prog 9 #[.pointer (some ⟨g, 0, none⟩), .agg ([.int .u64 32, .int .u64 0, .int .u64 0, .slice none 0 0, .int .u8 0, .int .u8 0, .int .u64 0, .int .u64 0, .int .u64 0, .int .u64 0, .bool false, .int .u64 0, .slice none 0 0, .int .u64 (n62 : Int), .int .u64 0, .slice a2 i c2] : List Value).toArray] w7 fun e w' => e = .returned (.int .u64 3) ∧ ∃ A', SZ w' g g { S7 with code := 3 } A' ∧ Below g w7 w' := hh3.mono fun e w' ⟨h1, A', h2, h3⟩ => ⟨h1, A', h2, h3.below z7 (Nat.le_trans HG6.out b7.size)⟩
            have HU7 := Lib.hid hu7
            have HH4 := Lib.hid hh4
            have HRG7 := Lib.hid r7
            have HB7 := Lib.hid b7
            have HS3 := Lib.hid (show upS { S7 with code := 3 } = false by simp [upS])
            clear hh3 hh4 hu7 r7 b7 z7 e1 e2 e3 e4 e5 hK7
            go_wp2_with (first
              | (refine L_loadG 31 _ rfl (by rfl) _ _ rfl _ _ HRG7.out Tryd.underlying31 rfl iMsg ?_)
              | (go_at_call 9; refine HH4.out.mono ?_; rintro y w8 ⟨rfl, A8, z8, b8⟩; have hu8 := up_any z8; rw [HS3.out] at hu8; have HU8 := Lib.hid hu8; have HB8 := Lib.hid b8; clear hu8 z8 b8)
              | (go_at_call 10; (with_reducible refine HU8.out.mono ?_); rintro y w9 ⟨rfl, rfl⟩)
              | (go_at_call 10; (with_reducible refine HU7.out.mono ?_); rintro y w9 ⟨rfl, rfl⟩))
            go_ret
            exact ⟨rfl, (HBT.out.trans (HB7.out.mono (by have := HBw.out.size; have := HG.out; omega))).trans (HB8.out.mono (by have := HBw.out.size; have := HG.out; omega))⟩
          | false =>
            have hh := Hear_v32 hz6 hm6 hK6 hg6s rfl (by simp [newS]) (by simp [newS]) hr32 rfl rfl rfl HONE.out
            have hh2 : Calls Tryd.prog 9 #[.pointer (some ⟨g, 0, none⟩), .agg ([.int .u64 32, .int .u64 0, .int .u64 0, .slice none 0 0, .int .u8 0, .int .u8 0, .int .u64 0, .int .u64 0, .int .u64 0, .int .u64 0, .bool false, .int .u64 0, .slice none 0 0, .int .u64 (n62 : Int), .int .u64 0, .slice a2 i c2] : List Value).toArray] w6 fun e w' => e = .returned (.int .u64 21) ∧ ∃ A', SZ w' g g { newS true 3 with code := 21 } A' ∧ Below g w6 w' := hh.mono fun e w' ⟨h1, A', h2, h3⟩ => ⟨h1, A', h2, h3.below hz6 hg6s⟩
            have HH := Lib.hid hh2
            clear hh hh2 hi0 hm6 hmN hz6 hr6 hfp hK6 hB3s hbt hg6s hbW hkb2 hgk hw4 hr32
            go_wp2_with (first
              | (refine L_loadG 31 _ rfl (by rfl) _ _ rfl _ _ HRG.out Tryd.underlying31 rfl iMsg ?_)
              | (go_at_call 9; refine HH.out.mono ?_; rintro y w7 ⟨rfl, A7, z7, b7⟩; have Z7 := Lib.hid z7; have B7 := Lib.hid b7; clear z7 b7)
              | (go_at_call 10; (with_reducible refine (up_any Z7.out).mono ?_); rintro y w8 ⟨rfl, rfl⟩))
            go_ret
            exact ⟨rfl, HBT.out.trans (B7.out.mono (by have := HBw.out.size; have := HG.out; omega))⟩
      | false =>
        have hnew := new_cli wr 3
        rw [hg] at hnew
        have HNW := Lib.hid hnew
        clear hnew
        go_upto_region 13 with (go_at_call 8; refine HNW.out.mono ?_; rintro y w3 ⟨rfl, ⟨A3, z3⟩, b3⟩; have Z3 := Lib.hid z3; have B3 := Lib.hid b3; clear z3 b3)
        obtain ⟨kb, hkb⟩ : ∃ kb, w3.heap.size = kb := ⟨_, rfl⟩
        have hb4 := below_alloc w3 (.cells #[.int .u64 0, .int .u64 0, .int .u64 0, .slice none 0 0, .int .u8 0, .int .u8 0, .int .u64 0, .int .u64 0, .int .u64 0, .int .u64 0, .bool false, .int .u64 0, .slice none 0 0, .int .u64 0, .int .u64 0, .slice none 0 0] 31)
        have hr4 := CR.new w3 31 [.int .u64 0, .int .u64 0, .int .u64 0, .slice none 0 0, .int .u8 0, .int .u8 0, .int .u64 0, .int .u64 0, .int .u64 0, .int .u64 0, .bool false, .int .u64 0, .slice none 0 0, .int .u64 0, .int .u64 0, .slice none 0 0]
        obtain ⟨w4, hw4⟩ : ∃ x, w3.alloc (.cells #[.int .u64 0, .int .u64 0, .int .u64 0, .slice none 0 0, .int .u8 0, .int .u8 0, .int .u64 0, .int .u64 0, .int .u64 0, .int .u64 0, .bool false, .int .u64 0, .slice none 0 0, .int .u64 0, .int .u64 0, .slice none 0 0] 31) = x := ⟨_, rfl⟩
        rw [hw4, hkb] at hr4
        rw [hw4, hkb] at hb4
        have HR4 := Lib.hid (show CR w4 kb 31 [.int .u64 0, .int .u64 0, .int .u64 0, .slice none 0 0, .int .u8 0, .int .u8 0, .int .u64 0, .int .u64 0, .int .u64 0, .int .u64 0, .bool false, .int .u64 0, .slice none 0 0, .int .u64 0, .int .u64 0, .slice none 0 0] from hr4)
        have HB4 := Lib.hid hb4
        have HKB := Lib.hid hkb
        clear hr4 hb4
        by_cases h51 : v5 = 1
        · have q5 : ((v5 : Int) == 1) = true := by simp; omega
          have HONE5 := Lib.hid h51
          clear h51
          go_upto_region 20 with (first
            | (refine L_storeRow (old := [.int .u64 0, .int .u64 0, .int .u64 0, .slice none 0 0, .int .u8 0, .int .u8 0, .int .u64 0, .int .u64 0, .int .u64 0, .int .u64 0, .bool false, .int .u64 0, .slice none 0 0, .int .u64 0, .int .u64 0, .slice none 0 0]) (new := [.int .u64 33, .int .u64 0, .int .u64 0, .slice none 0 0, .int .u8 0, .int .u8 0, .int .u64 0, .int .u64 0, .int .u64 0, .int .u64 0, .bool false, .int .u64 0, .slice none 0 0, .int .u64 (n62 : Int), .int .u64 (v5 : Int), .slice none 0 0]) rfl 31 _ _ rfl rfl rfl HR4.out iMsg rfl rfl (by simp [Value.oneCell']) ?_; intro w5 hz5 hg5; have HZ5 := Lib.hid hz5; have HG5 := Lib.hid hg5; clear hz5 hg5))
          have hbW : Below kb w3 w5 := HB4.out.grown HG5.out (by have := HB4.out.size; have := HKB.out; omega) (fun q hq => by cases hq; exact Nat.le_refl _)
          have hkb2 := HKB.out
          have hgk : g < kb := by have := Z3.out.row.lt; omega
          have hz6 : SZ w5 g g (newS false 3) A3 := Z3.out.bel (by rw [hkb2]; exact hbW)
          have hr6 : CR w5 kb 31 [.int .u64 33, .int .u64 0, .int .u64 0, .slice none 0 0, .int .u8 0, .int .u8 0, .int .u64 0, .int .u64 0, .int .u64 0, .int .u64 0, .bool false, .int .u64 0, .slice none 0 0, .int .u64 (n62 : Int), .int .u64 (v5 : Int), .slice none 0 0] := HZ5.out
          have hfp : ¬ FP g A3 kb := fun hf => by have := (Z3.out.fp_ge hf).2; omega
          have hK6 : KA w5 := (HKr.out.bel B3.out (by rw [HG.out]; exact Nat.le_refl _)).bel hbW (by rw [hkb2]; exact Nat.le_refl _)
          have hB3s : g ≤ w3.heap.size := by omega
          have hbt : Below w.heap.size w w5 := (HBw.out.trans (B3.out.mono (by have := HBw.out.size; have := HG.out; omega))).trans (hbW.mono (by have := HBw.out.size; have := HG.out; omega))
          have hg6s : g ≤ w5.heap.size := by have := hbW.size; omega
          have hmN : ∀ x : World, MR x (mNV 33 n62 v5) ML0 := fun x => (mo_NV x 0 33 n62 v5 (by omega) (by have := HN62.out; omega) (by have := HV5.out; omega)).mr
          have hr33 : rightM (mNV 33 n62 v5) = true := right_33 n62 v5 HN62.out (by have := HV5.out; omega)
          have HRG := Lib.hid hr6.rng
          have HBT := Lib.hid hbt
          have hh := Hear_s33 hz6 (hmN w5) hK6 hg6s rfl (by simp [newS]) (by simp [newS]) hr33 rfl rfl rfl HONE5.out
          have hh2 : Calls Tryd.prog 9 #[.pointer (some ⟨g, 0, none⟩), .agg ([.int .u64 33, .int .u64 0, .int .u64 0, .slice none 0 0, .int .u8 0, .int .u8 0, .int .u64 0, .int .u64 0, .int .u64 0, .int .u64 0, .bool false, .int .u64 0, .slice none 0 0, .int .u64 (n62 : Int), .int .u64 (v5 : Int), .slice none 0 0] : List Value).toArray] w5 fun e w' => e = .returned (.int .u64 0) ∧ ∃ A' S', S'.srv = false ∧ S'.heard = true ∧ S'.code = 0 ∧ S'.their.length ≤ 1048576 ∧ S'.out.length ≤ 1048576 ∧ SZ w' g g S' A' ∧ Below g w5 w' ∧ w'.rangeAt kb 0 ([.int .u64 33, .int .u64 0, .int .u64 0, .slice none 0 0, .int .u8 0, .int .u8 0, .int .u64 0, .int .u64 0, .int .u64 0, .int .u64 0, .bool false, .int .u64 0, .slice none 0 0, .int .u64 (n62 : Int), .int .u64 (v5 : Int), .slice none 0 0] : List Value) := hh.mono fun e w' ⟨h1, A', h2, h3⟩ => ⟨h1, A', _, rfl, rfl, rfl, by simp [newS], by simp [newS], h2, h3.below hz6 hg6s, (hr6.keep (h3.keep kb hr6.lt hfp)).rng⟩
          have HH := Lib.hid hh2
          have HMN := Lib.hid hmN
          have HK6 := Lib.hid hK6
          have HR33 := Lib.hid hr33
          have HG6 := Lib.hid hg6s
          clear hh hh2 hmN hz6 hr6 hfp hK6 hB3s hbt hg6s hbW hkb2 hgk hw4 hr33
          go_upto_region 21 with (first
            | (refine L_loadG 31 _ rfl (by rfl) _ _ rfl _ _ HRG.out Tryd.underlying31 rfl iMsg ?_)
            | (go_at_call 9; refine HH.out.mono ?_; rintro y w7 ⟨rfl, A7, S7, e1, e2, e3, e4, e5, z7, b7, r7⟩))
          have hh3 := Hear_twice z7 (HMN.out w7) (by
            exact fun j x hx i2 v hv => by
              have h2 := HK6.out j x hx i2 v hv
              have hlt : 0 < g := by have := HKr.out.lt; have := HG.out; omega
              exact (b7.cell (p := ⟨0, 2 * j + i2, none⟩) hlt).trans h2) (Nat.le_trans HG6.out b7.size) e3 e4 e5 HR33.out (by simp [setupB, mNV, e1]) e2
          have hu7 := up_any z7
          rw [show upS S7 = true by unfold upS; rw [e2, e3]; rfl] at hu7
          have hh4 : Calls Tryd.prog 9 #[.pointer (some ⟨g, 0, none⟩), .agg ([.int .u64 33, .int .u64 0, .int .u64 0, .slice none 0 0, .int .u8 0, .int .u8 0, .int .u64 0, .int .u64 0, .int .u64 0, .int .u64 0, .bool false, .int .u64 0, .slice none 0 0, .int .u64 (n62 : Int), .int .u64 (v5 : Int), .slice none 0 0] : List Value).toArray] w7 fun e w' => e = .returned (.int .u64 3) ∧ ∃ A', SZ w' g g { S7 with code := 3 } A' ∧ Below g w7 w' := hh3.mono fun e w' ⟨h1, A', h2, h3⟩ => ⟨h1, A', h2, h3.below z7 (Nat.le_trans HG6.out b7.size)⟩
          have HU7 := Lib.hid hu7
          have HH4 := Lib.hid hh4
          have HRG7 := Lib.hid r7
          have HB7 := Lib.hid b7
          have HS3 := Lib.hid (show upS { S7 with code := 3 } = false by simp [upS])
          clear hh3 hh4 hu7 r7 b7 z7 e1 e2 e3 e4 e5
          go_wp2_with (first
            | (refine L_loadG 31 _ rfl (by rfl) _ _ rfl _ _ HRG7.out Tryd.underlying31 rfl iMsg ?_)
            | (go_at_call 9; refine HH4.out.mono ?_; rintro y w8 ⟨rfl, A8, z8, b8⟩; have hu8 := up_any z8; rw [HS3.out] at hu8; have HU8 := Lib.hid hu8; have HB8 := Lib.hid b8; clear hu8 z8 b8)
            | (go_at_call 10; (with_reducible refine HU8.out.mono ?_); rintro y w9 ⟨rfl, rfl⟩)
            | (go_at_call 10; (with_reducible refine HU7.out.mono ?_); rintro y w9 ⟨rfl, rfl⟩))
          go_ret
          exact ⟨rfl, (HBT.out.trans (HB7.out.mono (by have := HBw.out.size; have := HG.out; omega))).trans (HB8.out.mono (by have := HBw.out.size; have := HG.out; omega))⟩
        · have q5 : ((v5 : Int) == 1) = false := by simp; omega
          have HONE5 := Lib.hid h51
          clear h51
          go_upto_region 20 with (first
            | (refine L_storeRow (old := [.int .u64 0, .int .u64 0, .int .u64 0, .slice none 0 0, .int .u8 0, .int .u8 0, .int .u64 0, .int .u64 0, .int .u64 0, .int .u64 0, .bool false, .int .u64 0, .slice none 0 0, .int .u64 0, .int .u64 0, .slice none 0 0]) (new := [.int .u64 33, .int .u64 0, .int .u64 0, .slice none 0 0, .int .u8 0, .int .u8 0, .int .u64 0, .int .u64 0, .int .u64 0, .int .u64 0, .bool false, .int .u64 0, .slice none 0 0, .int .u64 (n62 : Int), .int .u64 (v5 : Int), .slice none 0 0]) rfl 31 _ _ rfl rfl rfl HR4.out iMsg rfl rfl (by simp [Value.oneCell']) ?_; intro w5 hz5 hg5; have HZ5 := Lib.hid hz5; have HG5 := Lib.hid hg5; clear hz5 hg5))
          have hbW : Below kb w3 w5 := HB4.out.grown HG5.out (by have := HB4.out.size; have := HKB.out; omega) (fun q hq => by cases hq; exact Nat.le_refl _)
          have hkb2 := HKB.out
          have hgk : g < kb := by have := Z3.out.row.lt; omega
          have hz6 : SZ w5 g g (newS false 3) A3 := Z3.out.bel (by rw [hkb2]; exact hbW)
          have hr6 : CR w5 kb 31 [.int .u64 33, .int .u64 0, .int .u64 0, .slice none 0 0, .int .u8 0, .int .u8 0, .int .u64 0, .int .u64 0, .int .u64 0, .int .u64 0, .bool false, .int .u64 0, .slice none 0 0, .int .u64 (n62 : Int), .int .u64 (v5 : Int), .slice none 0 0] := HZ5.out
          have hfp : ¬ FP g A3 kb := fun hf => by have := (Z3.out.fp_ge hf).2; omega
          have hK6 : KA w5 := (HKr.out.bel B3.out (by rw [HG.out]; exact Nat.le_refl _)).bel hbW (by rw [hkb2]; exact Nat.le_refl _)
          have hB3s : g ≤ w3.heap.size := by omega
          have hbt : Below w.heap.size w w5 := (HBw.out.trans (B3.out.mono (by have := HBw.out.size; have := HG.out; omega))).trans (hbW.mono (by have := HBw.out.size; have := HG.out; omega))
          have hg6s : g ≤ w5.heap.size := by have := hbW.size; omega
          have hmN : ∀ x : World, MR x (mNV 33 n62 v5) ML0 := fun x => (mo_NV x 0 33 n62 v5 (by omega) (by have := HN62.out; omega) (by have := HV5.out; omega)).mr
          have hr33 : rightM (mNV 33 n62 v5) = true := right_33 n62 v5 HN62.out (by have := HV5.out; omega)
          have HRG := Lib.hid hr6.rng
          have HBT := Lib.hid hbt
          have hh := Hear_v33 hz6 (hmN w5) hK6 hg6s rfl (by simp [newS]) (by simp [newS]) hr33 rfl rfl rfl HONE5.out
          have hh2 : Calls Tryd.prog 9 #[.pointer (some ⟨g, 0, none⟩), .agg ([.int .u64 33, .int .u64 0, .int .u64 0, .slice none 0 0, .int .u8 0, .int .u8 0, .int .u64 0, .int .u64 0, .int .u64 0, .int .u64 0, .bool false, .int .u64 0, .slice none 0 0, .int .u64 (n62 : Int), .int .u64 (v5 : Int), .slice none 0 0] : List Value).toArray] w5 fun e w' => e = .returned (.int .u64 21) ∧ ∃ A', SZ w' g g { newS false 3 with code := 21 } A' ∧ Below g w5 w' := hh.mono fun e w' ⟨h1, A', h2, h3⟩ => ⟨h1, A', h2, h3.below hz6 hg6s⟩
          have HH := Lib.hid hh2
          clear hh hh2 hmN hz6 hr6 hfp hK6 hB3s hbt hg6s hbW hkb2 hgk hw4 hr33
          go_wp2_with (first
            | (refine L_loadG 31 _ rfl (by rfl) _ _ rfl _ _ HRG.out Tryd.underlying31 rfl iMsg ?_)
            | (go_at_call 9; refine HH.out.mono ?_; rintro y w7 ⟨rfl, A7, z7, b7⟩; have Z7 := Lib.hid z7; have B7 := Lib.hid b7; clear z7 b7)
            | (go_at_call 10; (with_reducible refine (up_any Z7.out).mono ?_); rintro y w8 ⟨rfl, rfl⟩))
          go_ret
          exact ⟨rfl, HBT.out.trans (B7.out.mono (by have := HBw.out.size; have := HG.out; omega))⟩
    · have hlt : i < k := by omega
      obtain ⟨y, hy⟩ : ∃ y, ys[i]? = some y := ⟨_, List.getElem?_eq_getElem (by rw [HYL.out]; exact hlt)⟩
      obtain ⟨vb, hvb⟩ : ∃ vb, a2 = some ⟨vb, 0, none⟩ := by
        rcases HO.out.shape with ⟨_, h2, _⟩ | ⟨q, cur, h1, _⟩
        · omega
        · exact ⟨q, h1⟩
      subst hvb
      have hc : wr.cell? ⟨vb, i, none⟩ = some (.int .u64 (y : Int)) := HO.out.cell i _ (US_get (modI_get hy))
      have hf := HO.out.frozen i
      have ho2 := HO.out.setCell i (.int .u64 ((y % 5 : Nat) : Int)) rfl
      have hcat : (wr.setCell ⟨vb, i, none⟩ (.int .u64 ((y % 5 : Nat) : Int))).cell? ⟨vb, i, none⟩ = some (.int .u64 ((y % 5 : Nat) : Int)) := ho2.cell i _ (by simp [US, modI_len, HYL.out, hlt])
      have hset : (US (modI ys i)).set i (.int .u64 ((y % 5 : Nat) : Int)) = US (modI ys (i + 1)) := by
        unfold US; rw [← modI_set hy, List.map_set]; rfl
      rw [hset] at ho2
      have hb2 := HB.out.setCell (p := ⟨vb, i, none⟩) ((HO.out.base_le rfl).1) (.int .u64 ((y % 5 : Nat) : Int))
      have hst := anyI_step hy
      obtain ⟨ac, hac⟩ : ∃ b, anyI ys i = b := ⟨_, rfl⟩
      rw [hac] at hst ⊢
      have hy5 : ((y : Int) % 5) = ((y % 5 : Nat) : Int) := by omega
      rw [← hy5] at ho2 hcat hb2
      obtain ⟨z, hz⟩ : ∃ z, y % 5 = z := ⟨_, rfl⟩
      rw [hz] at hst
      have hz2 : (y : Int) % 5 = (z : Int) := by rw [← hz]; exact hy5
      have HO2 := Lib.hid ho2
      have HB2 := Lib.hid hb2
      have HST := Lib.hid hst
      have HZ := Lib.hid hz2
      have hwr : IntKind.i64.wrap ((i : Int) + 1) = (i : Int) + 1 := IntWalk.i64_in _ (by omega)
      have hm1 := Nat.mul_one i
      have HM1 := Lib.hid hm1
      clear hy ho2 hb2 hst hac hset hy5 hz hz2 hm1 hik
      cases ac with
      | true =>
        have hst := HST.out
        rw [Bool.true_or] at hst
        have HS2 := Lib.hid hst
        clear hst
        go_wp2_with ((with_reducible refine gate_ix ?_); refine L_indexZ t64 _ _ rfl .i64 _ i rfl rfl rfl hlt HM1.out (by rfl) ?_)
        exact ⟨⟨i + 1, by omega, by simp, by rw [HS2.out], HO2.out, HB2.out⟩, by simp; omega⟩
      | false =>
        by_cases hz1 : z = 1
        · have q1 : ((y : Int) % 5 == 1) = true := by have := HZ.out; simp; omega
          have hst := HST.out
          rw [show (z == 1) = true by simpa using hz1] at hst
          have HS2 := Lib.hid hst
          clear hst hz1
          go_wp2_with ((with_reducible refine gate_ix ?_); refine L_indexZ t64 _ _ rfl .i64 _ i rfl rfl rfl hlt HM1.out (by rfl) ?_)
          exact ⟨⟨i + 1, by omega, by simp, by rw [HS2.out]; rfl, HO2.out, HB2.out⟩, by simp; omega⟩
        · have q1 : ((y : Int) % 5 == 1) = false := by have := HZ.out; simp; omega
          have hst := HST.out
          rw [show (z == 1) = false by simpa using hz1] at hst
          have HS2 := Lib.hid hst
          clear hst hz1
          go_wp2_with ((with_reducible refine gate_ix ?_); refine L_indexZ t64 _ _ rfl .i64 _ i rfl rfl rfl hlt HM1.out (by rfl) ?_)
          exact ⟨⟨i + 1, by omega, by simp, by rw [HS2.out]; rfl, HO2.out, HB2.out⟩, by simp; omega⟩
end Go.Proofs.YtokgpnkooigamaaDoor
