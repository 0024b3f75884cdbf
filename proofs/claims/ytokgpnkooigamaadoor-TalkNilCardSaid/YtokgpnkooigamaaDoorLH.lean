/- TalkNil: its walk. -/
import Derived.Test.YtokgpnkooigamaaDoorLG
set_option maxRecDepth 100000
set_option linter.unusedVariables false
namespace Go.Proofs.YtokgpnkooigamaaDoor
open Go.RowKit
set_option maxHeartbeats 16000000 in
theorem talkNil_walk (w : World) (m : MG) (s : ML) (hm : MW w m s) (id : Nat) (hK : KA w) :
    Calls Tryd.prog 6 #[.agg (mgc m s).toArray, .int .u64 (id : Int)] w fun e w' => e = .returned (.bool true) ∧ Below w.heap.size w w' := by
  have hb1 := below_alloc w (.cells (mgc m s).toArray 35)
  have hr1 := CR.new w 35 (mgc m s)
  have hm1 := hm.bel hb1 (Nat.le_refl _)
  have hK1 := hK.bel hb1 (Nat.le_refl _)
  obtain ⟨k, hk⟩ : ∃ k, w.heap.size = k := ⟨_, rfl⟩
  obtain ⟨w1, hw1⟩ : ∃ x, w.alloc (.cells (mgc m s).toArray 35) = x := ⟨_, rfl⟩
  rw [hw1] at hb1 hm1 hK1
  rw [hw1, hk] at hr1
  have HA := Lib.hid (awake_any w1 hK1)
  have HB1 := Lib.hid hb1
  have HR1 := Lib.hid hr1
  have HM1 := Lib.hid hm1
  clear hb1 hr1 hm1 hK1 hm hK
  unfold mgc u64 SA.v at hw1 ⊢
  go_enter Tryd.func6, Tryd.ntmps6
  go_upto_region 4 with (go_at_call 7; refine HA.out.mono ?_; rintro y w2 ⟨rfl, b2⟩; have B2 := Lib.hid b2; clear b2)
  have HR2 := Lib.hid (HR1.out.bel B2.out)
  have Hrg2 := Lib.hid HR2.out.rng
  have HM2 := Lib.hid (HM1.out.bel B2.out (Nat.le_refl _))
  have HFw := Lib.hid (few_any w2 m s HM2.out)
  clear HA
  go_upto_region 5 with (first
    | (refine L_loadG 35 _ rfl (by rfl) _ _ rfl _ _ Hrg2.out Tryd.underlying35 rfl iMsg15 ?_)
    | (go_at_call 11; refine HFw.out.mono ?_; rintro y w3 ⟨s3, rfl, m3, b3⟩; have B3 := Lib.hid b3; clear m3 b3)
    | (go_at_call 13; (with_reducible refine (say_nil w3 (fewM m) s3).mono ?_); rintro y w4 ⟨rfl, b4⟩; have B4 := Lib.hid b4; clear b4; obtain ⟨kx, hkx⟩ : ∃ x, w4.heap.size = x := ⟨_, rfl⟩; have hrx := CR.new w4 31 Z16; rw [hkx] at hrx; have HRX := Lib.hid hrx; clear hrx)
    | (refine L_storeRow (old := Z16) (new := Z16) rfl 31 _ _ rfl rfl rfl HRX.out iMsg rfl rfl (by simp [Z16, Value.oneCell']) ?_; intro w5 hz5 hg5; have HZ5 := Lib.hid (show CR w5 kx 31 Z16 from hz5); have HG5 := Lib.hid hg5; clear hz5 hg5))
  have hb45 : Below w4.heap.size w4 w5 := (below_alloc w4 (.cells Z16.toArray 31)).grown HG5.out (by simp) (fun j hj => by cases hj; omega)
  have HB45 := Lib.hid hb45
  clear hb45
  go_upto_region 6 with (first
    | (go_at_call 17; (with_reducible refine (find_nil w5 id).mono ?_); rintro y w6 ⟨rfl, b6⟩; have B6 := Lib.hid b6; clear b6; obtain ⟨ky, hky⟩ : ∃ x, w6.heap.size = x := ⟨_, rfl⟩; have hry := CR.new w6 49 Z17; rw [hky] at hry; have HRY := Lib.hid hry; clear hry)
    | (refine L_storeRow (old := Z17) (new := Z17) rfl 49 _ _ rfl rfl rfl HRY.out iAsk rfl rfl (by simp [Z17, Value.oneCell']) ?_; intro w7 hz7 hg7; have HG7 := Lib.hid hg7; clear hz7 hg7))
  have hb67 : Below w6.heap.size w6 w7 := (below_alloc w6 (.cells Z17.toArray 49)).grown HG7.out (by simp) (fun j hj => by cases hj; omega)
  have hb57 : Below w5.heap.size w5 w7 := btr B6.out hb67
  have hb27 : Below w2.heap.size w2 w7 := btr (btr (btr B3.out B4.out) HB45.out) hb57
  have HR7 := Lib.hid (HR2.out.bel hb27)
  have Hrg7 := Lib.hid HR7.out.rng
  have HFw7 := Lib.hid (few_any w7 m s (HM2.out.bel hb27 (Nat.le_refl _)))
  have HX7 := Lib.hid (HZ5.out.bel hb57)
  have HBt := Lib.hid (btr (btr HB1.out B2.out) hb27)
  clear hb67 hb57 hb27
  go_wp2_with (first
    | (refine L_loadG 35 _ rfl (by rfl) _ _ rfl _ _ Hrg7.out Tryd.underlying35 rfl iMsg15 ?_)
    | (refine L_loadG 31 _ rfl (by rfl) _ _ rfl _ _ Hrg9.out Tryd.underlying31 rfl iMsg ?_)
    | (go_at_call 11; refine HFw7.out.mono ?_; rintro y w8 ⟨s8, rfl, m8, b8⟩; have B8 := Lib.hid b8; clear m8 b8)
    | (go_at_call 9; (with_reducible refine (Hear_nil w8 (fewM m) s8).mono ?_); rintro y w9 ⟨rfl, b9⟩; have B9 := Lib.hid (btr B8.out b9); clear b9; have Hrg9 := Lib.hid (HX7.out.bel B9.out).rng)
    | (go_at_call 18; refine (same0 w9).mono ?_; rintro y w10 ⟨rfl, b10⟩; have B10 := Lib.hid b10; clear b10)
    | (go_at_call 12; (with_reducible refine (out_nil w10).mono ?_); rintro y w11 ⟨rfl, rfl⟩)
    | (go_at_call 19; (with_reducible refine (finish_nil w10 id true).mono ?_); rintro y w11 ⟨rfl, rfl⟩)
    | (go_at_call 16; (with_reducible refine (asks_nil w10 true).mono ?_); rintro y w11 ⟨rfl, rfl⟩)
    | (go_at_call 10; (with_reducible refine (up_nil w10).mono ?_); rintro y w11 ⟨rfl, rfl⟩)
    | (go_at_call 14; (with_reducible refine (code_nil w10).mono ?_); rintro y w11 ⟨rfl, rfl⟩))
  go_ret
  exact ⟨rfl, btr (btr HBt.out B9.out) B10.out⟩
end Go.Proofs.YtokgpnkooigamaaDoor
