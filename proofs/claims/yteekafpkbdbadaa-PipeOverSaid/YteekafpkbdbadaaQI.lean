/- law12: limits, awake. -/
import Derived.Test.YteekafpkbdbadaaQH
import Derived.Test.YteekafpkbdbadaaA1
import Derived.Test.YteekafpkbdbadaaOU
set_option maxRecDepth 100000
set_option linter.unusedVariables false
namespace Go.Proofs.Yteekafpkbdbadaa.Pi
open Go.RowKit
theorem iLims : (Try.prog.info? 27).map (·.size) = some 4 := by kernel_rfl
theorem limits_any (w : World) : Calls Try.prog 18 #[] w fun e w' => e = .returned (.agg #[.int .u64 100, .int .u64 200, .int .u64 3, .int .u64 3]) ∧ Below w.heap.size w w' := by
  have hr := CR.new w 27 [.int .u64 0, .int .u64 0, .int .u64 0, .int .u64 0]
  have hb := below_alloc w (.cells [.int .u64 0, .int .u64 0, .int .u64 0, .int .u64 0].toArray 27)
  obtain ⟨k, hk⟩ : ∃ k, w.heap.size = k := ⟨_, rfl⟩
  rw [hk] at hr
  have HR := Lib.hid hr
  have HB := Lib.hid hb
  have HK := Lib.hid hk
  clear hr hb
  go_enter Try.func18, Try.ntmps18
  go_wp2_with (refine L_storeRow (old := [.int .u64 0, .int .u64 0, .int .u64 0, .int .u64 0]) (new := [.int .u64 100, .int .u64 200, .int .u64 3, .int .u64 3]) rfl 27 _ _ rfl rfl rfl HR.out iLims rfl rfl (by simp [Value.oneCell']) ?_; intro w2 hz hg)
  refine bodyPost_ret_by (results_cell_row rfl _ _ _ _ _ _ _ rfl hz Try.underlying27 rfl iLims) rfl ?_
  exact ⟨rfl, HB.out.grown hg HB.out.size (fun j hj => by cases hj; rw [HK.out]; exact Nat.le_refl _)⟩
/-- what a table of one's own does to what lay there -/
structure MB (w w' : World) (role : Nat → Nat) : Prop where
  b : Below w.heap.size w w'
  r : ∀ k, role k ≠ 0 → w.heap.size ≤ k
theorem MB.stq {w w1 w2 : World} {role role' : Nat → Nat} (h : MB w w1 role) (s : Stq (fun r => r ≠ 0) w1 w2 role role') : MB w w2 role' := by
  have hz : ∀ k, k < w.heap.size → role k = 0 := fun k hk => by
    by_cases hh : role k = 0
    · exact hh
    · have := h.r k hh; omega
  refine ⟨⟨s.kq.os.trans h.b.os, s.kq.tape.trans h.b.tape, s.kq.output.trans h.b.output, Nat.le_trans h.b.size s.size, fun k hk => ?_⟩, fun k hk => ?_⟩
  · rw [s.blk k (Nat.lt_of_lt_of_le hk h.b.size) (by rw [hz k hk]; exact fun hh => hh rfl)]
    exact h.b.block k hk
  · by_cases hh : k < w.heap.size
    · exact absurd ((s.old k (Nat.lt_of_lt_of_le hh h.b.size)).trans (hz k hh)) hk
    · omega
theorem MB.bel {w w1 w2 : World} {role : Nat → Nat} (h : MB w w1 role) (b : Below w1.heap.size w1 w2) : MB w w2 role := ⟨h.b.trans (b.mono h.b.size), h.r⟩
theorem TZ.can {w : World} {role : Nat → Nat} {g : Nat} {T : TaS} {Y : TaY} (h : TZ w role g T Y) : Y.ca.n = T.came.length := by
  have := h.ca.rs.len
  unfold US at this
  rw [List.length_map] at this
  omega
def aw1 : TaS := peerS (newS false 100 200 3 3) 100 200 3 3
def aw2 : TaS := makeS (Pi.setSo aw1 false false { aw1.so false false with known := (aw1.so false false).known + 1 }) ((aw1.so false false).known * 4 + 0)
def aw3 : TaS := makeS (Pi.setSo aw2 false true { aw2.so false true with known := (aw2.so false true).known + 1 }) ((aw2.so false true).known * 4 + 2)
def aw4 : TaS := makeS (Pi.setSo aw3 false true { aw3.so false true with known := (aw3.so false true).known + 1 }) ((aw3.so false true).known * 4 + 2)
theorem aw1_f : aw1.srv = false ∧ (aw1.so false false).known = 0 ∧ (aw1.so false false).may = 3 ∧ aw1.l 0 = none := ⟨rfl, rfl, rfl, rfl⟩
theorem aw2_f : aw2.srv = false ∧ (aw2.so false true).known = 0 ∧ (aw2.so false true).may = 3 ∧ aw2.l 2 = none := ⟨rfl, rfl, rfl, rfl⟩
theorem aw3_f : aw3.srv = false ∧ (aw3.so false true).known = 1 ∧ (aw3.so false true).may = 3 ∧ aw3.l 6 = none := ⟨rfl, rfl, rfl, rfl⟩
theorem aw4_f : aw4.srv = false ∧ (aw4.so true true).known = 0 ∧ (aw4.so true true).may = 3 ∧ aw4.ow.w = 100 ∧ aw4.ti.l = 200 ∧ aw4.ti.c = 0 ∧ aw4.came = [] := ⟨rfl, rfl, rfl, rfl, rfl, rfl, rfl⟩
theorem setSo_l (T : TaS) (a b : Bool) (s : SoS) : (Pi.setSo T a b s).l = T.l := rfl
theorem makeS_l (T : TaS) (id j : Nat) : (makeS T id).l j = if j = id then some (stN T id) else T.l j := rfl
theorem aw4_l (i : Nat) : aw4.l (i * 4 + 3) = none := by
  unfold aw4
  rw [makeS_l, if_neg (by show i * 4 + 3 ≠ 6; omega)]
  rw [setSo_l]
  unfold aw3
  rw [makeS_l, if_neg (by show i * 4 + 3 ≠ 2; omega)]
  rw [setSo_l]
  unfold aw2
  rw [makeS_l, if_neg (by show i * 4 + 3 ≠ 0; omega)]
  rfl
theorem aw4_n {Y : TaY} {w : World} {role : Nat → Nat} {g : Nat} (h : TZ w role g aw4 Y) (hy : Y.n = 3) : NWS aw4 Y 3 5 :=
  ⟨by decide, rfl, rfl, fun i _ => aw4_l i, by omega, by rw [h.can]; show 0 + 1 < 1000000; decide, by decide, by decide, by decide, by decide, by decide, by decide⟩
def aw5 (p : List UInt8) : TaS := bytesN aw4 3 5 p
theorem aw5_s (p : List UInt8) : (aw5 p).l 3 = some { stN aw4 3 with inn := some (inB 100 5 p) } ∧ (aw5 p).srv = false ∧ ((aw5 p).so true true).may = 3 := ⟨rfl, rfl, rfl⟩
set_option maxHeartbeats 4000000 in
theorem awake12 (w : World) : Calls Try.prog 7 #[] w fun e w' => e = .returned (.bool true) ∧ Below w.heap.size w w' := by
  have hcv := fun (W : World) (C : Array Value) (n c : Nat) => Lib.run_convert_bytes_const (P := Try.prog) W 34 5 C n c Try.underlying34 Try.underlying5
  have HNW := Lib.hid (fun (W : World) => (new_any W false 100 200 3 3 : Calls Try.prog 8 #[.bool false, .agg #[.int .u64 100, .int .u64 200, .int .u64 3, .int .u64 3]] W _))
  go_enter Try.func7, Try.ntmps7
  go_upto_region 2 with (first
    | (go_at_call 18; refine (limits_any w).mono ?_; rintro x w1 ⟨rfl, B1⟩)
    | (go_at_call 8; refine (HNW.out w1).mono ?_; rintro x w2 ⟨g, role, Y, rfl, z2, y2, b2, r2⟩))
  have M2 := Lib.hid (⟨B1.trans (b2.mono B1.size), fun k hk => Nat.le_trans B1.size (r2 k hk)⟩ : MB w w2 role)
  have Z2 := Lib.hid z2
  have Y2 := Lib.hid y2
  clear B1 z2 y2 b2 r2
  have HPE := Lib.hid (fun (W : World) (z : TZ W role g (newS false 100 200 3 3) Y) => (peer_any z Y2.out 100 200 3 3 (by decide) (by decide) : Calls Try.prog 9 #[ptr g, .agg #[.int .u64 100, .int .u64 200, .int .u64 3, .int .u64 3]] W _))
  go_upto_region 3 with (first
    | (go_at_call 18; refine (limits_any w2).mono ?_; rintro x w3 ⟨rfl, B3⟩; have Z3 := Lib.hid (Z2.out.bel B3); have M3 := Lib.hid (M2.out.bel B3); clear B3)
    | (go_at_call 9; refine (HPE.out w3 Z3.out).mono ?_; rintro x w4 ⟨rfl, z4, t4⟩))
  have Z4 := Lib.hid (show TZ w4 role g aw1 Y from z4)
  have M4 := Lib.hid (M3.out.stq t4)
  clear z4 t4
  have HO4 := Lib.hid (open_false_false Z4.out aw1_f.1 (by rw [Y2.out]; decide) (by rw [aw1_f.2.1]; decide) (by rw [aw1_f.2.1, aw1_f.2.2.1]; decide) (by rw [aw1_f.2.1]; exact aw1_f.2.2.2))
  rw [show (aw1.so false false).known = 0 from rfl] at HO4
  go_upto_region 4 with (go_at_call 10; refine HO4.out.mono ?_; rintro x w5 ⟨rfl, role5, Y5, z5, y5, t5⟩)
  have Z5 := Lib.hid (show TZ w5 role5 g aw2 Y5 from z5)
  have M5 := Lib.hid (M4.out.stq t5)
  have YN5 := Lib.hid (show Y5.n = 1 by rw [y5, Y2.out])
  clear z5 t5 y5
  have HO5 := Lib.hid (open_false_true Z5.out aw2_f.1 (by rw [YN5.out]; decide) (by rw [aw2_f.2.1]; decide) (by rw [aw2_f.2.1, aw2_f.2.2.1]; decide) (by rw [aw2_f.2.1]; exact aw2_f.2.2.2))
  rw [show (aw2.so false true).known = 0 from rfl] at HO5
  go_upto_region 5 with (go_at_call 10; refine HO5.out.mono ?_; rintro x w6 ⟨rfl, role6, Y6, z6, y6, t6⟩)
  have Z6 := Lib.hid (show TZ w6 role6 g aw3 Y6 from z6)
  have M6 := Lib.hid (M5.out.stq t6)
  have YN6 := Lib.hid (show Y6.n = 2 by rw [y6, YN5.out])
  clear z6 t6 y6
  have HO6 := Lib.hid (open_false_true Z6.out aw3_f.1 (by rw [YN6.out]; decide) (by rw [aw3_f.2.1]; decide) (by rw [aw3_f.2.1, aw3_f.2.2.1]; decide) (by rw [aw3_f.2.1]; exact aw3_f.2.2.2))
  rw [show (aw3.so false true).known = 1 from rfl] at HO6
  go_upto_region 6 with (go_at_call 10; refine HO6.out.mono ?_; rintro x w7 ⟨rfl, role7, Y7, z7, y7, t7⟩)
  have Z7 := Lib.hid (show TZ w7 role7 g aw4 Y7 from z7)
  have M7 := Lib.hid (M6.out.stq t7)
  have YN7 := Lib.hid (show Y7.n = 3 by rw [y7, YN6.out])
  clear z7 t7 y7
  have HS7 := Lib.hid (hear_state Z7.out (id := 2) (da := SA0) (p := []) (RS_nil w7 1) ⟨by decide, by decide, by decide⟩ rfl rfl)
  unfold frc SA0 at HS7
  go_upto_region 7 with (go_at_call 11; refine HS7.out.mono ?_; rintro x w8 ⟨rfl, B8⟩)
  have Z8 := Lib.hid (Z7.out.bel B8)
  have M8 := Lib.hid (M7.out.bel B8)
  clear B8
  have HR9 := Lib.hid (show ∀ ad, (some (⟨w8.heap.size, 0, none⟩ : Addr)) = some ad → role7 ad.block = 0 from fun ad had => by injection had with had; subst had; exact Z8.out.top _ (Nat.le_refl _))
  have HS9 := Lib.hid (fun (W : World) (hz : TZ W role7 g aw4 Y7) (hb : BS W (some ⟨w8.heap.size, 0, none⟩) 5 5 [97, 98, 99, 100, 101]) => hear_new_true hz (id := 3) (da := ⟨some ⟨w8.heap.size, 0, none⟩, 5, 5⟩) hb ⟨by decide, (show 0 + 5 ≤ 4611686018427387903 by decide), (show 5 ≤ 1200 by decide)⟩ HR9.out (aw4_n hz YN7.out) rfl (Nat.le_of_ble_eq_true rfl))
  unfold frc SA0 at HS9
  go_upto_region 8 with (go_at_call 11; refine (HS9.out _ (Z8.out.bel (below_alloc w8 _)) (BS_lit w8 [97, 98, 99, 100, 101] _ _ rfl 5 rfl (by decide) rfl)).mono ?_; rintro x w10 ⟨rfl, role10, Y10, z10, t10, y10⟩)
  have Z10 := Lib.hid (show TZ w10 role10 g (aw5 [97, 98, 99, 100, 101]) Y10 from z10)
  have M10 := Lib.hid ((M8.out.bel (below_alloc w8 _)).stq t10)
  clear z10 t10 y10
  have HS11 := Lib.hid (fun (W : World) (hz : TZ W role10 g (aw5 [97, 98, 99, 100, 101]) Y10) (hb : BS W (some ⟨w10.heap.size, 0, none⟩) 6 6 [97, 98, 99, 100, 101, 102]) => hear_over_true hz (id := 3) (da := ⟨some ⟨w10.heap.size, 0, none⟩, 6, 6⟩) hb ⟨by decide, (show 0 + 6 ≤ 4611686018427387903 by decide), (show 6 ≤ 1200 by decide)⟩ rfl (aw5_s _).1 rfl rfl (show 5 < 6 by decide) rfl (Nat.le_of_ble_eq_true rfl))
  unfold frc SA0 at HS11
  go_wp2_with (go_at_call 11; refine (HS11.out _ (Z10.out.bel (below_alloc w10 _)) (BS_lit w10 [97, 98, 99, 100, 101, 102] _ _ rfl 6 rfl (by decide) rfl)).mono ?_; rintro x w12 ⟨rfl, B12⟩)
  go_ret
  exact ⟨rfl, ((M10.out.bel (below_alloc w10 _)).bel B12).b⟩
end Go.Proofs.Yteekafpkbdbadaa.Pi
