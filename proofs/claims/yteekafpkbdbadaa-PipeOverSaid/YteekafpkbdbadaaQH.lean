/- pipe: Hear of Stream frames. -/
import Derived.Test.YteekafpkbdbadaaQF
import Derived.Test.YteekafpkbdbadaaOT
set_option maxRecDepth 100000
set_option linter.unusedVariables false
namespace Go.Proofs.Yteekafpkbdbadaa.Pi
open Go.RowKit
section
variable {w w' : World} {role : Nat → Nat} {g : Nat} {T : TaS} {Y : TaY}
/-- more than the last byte of a stream whose end is known -/
theorem bytes_over (h : TZ w role g T Y) {id : Nat} {da : SA} {s : StS} {i : InS} (hid : id < 18446744073709551616) (hs : T.l id = some s) (hi : s.inn = some i) (hk : i.qu.known = true) (hh : i.qu.last < da.n) (hn : da.n ≤ 1200) :
    Calls Try.prog 25 #[ptr g, .agg (frc 8 id 0 0 0 false da SA0 SA0).toArray] w fun e w' => e = .returned (.int .u64 6) ∧ Below w.heap.size w w' := by
  obtain ⟨gf, hg⟩ : ∃ k, w.heap.size = k := ⟨_, rfl⟩
  have hA := CR.new w 37 (frc 8 id 0 0 0 false da SA0 SA0)
  have hb := below_alloc w (.cells (frc 8 id 0 0 0 false da SA0 SA0).toArray 37)
  unfold frc SA0 at hA hb
  unfold frc SA0
  obtain ⟨n, hdn⟩ : ∃ n, da.n = n := ⟨_, rfl⟩
  rw [hdn] at hA hb hh hn ⊢
  obtain ⟨W1, hW1⟩ : ∃ x, w.alloc (.cells ([.int .u64 8, .int .u64 (id : Int), .int .u64 0, .int .u64 0, .int .u64 0, .bool false, .slice da.a n da.c, .slice none 0 0, .slice none 0 0] : List Value).toArray 37) = x := ⟨_, rfl⟩
  rw [hW1, hg] at hA
  rw [hW1] at hb
  have HA := Lib.hid hA
  have HB := Lib.hid hb
  have H1 := Lib.hid (h.bel hb)
  have c1 : W1.cell? ⟨gf, 1, none⟩ = some (.int .u64 (id : Int)) := HA.out.at_ 1
  have c2 : W1.cell? ⟨gf, 2, none⟩ = some (.int .u64 0) := HA.out.at_ 2
  have c5 : W1.cell? ⟨gf, 5, none⟩ = some (.bool false) := HA.out.at_ 5
  have c6 : W1.cell? ⟨gf, 6, none⟩ = some (.slice da.a n da.c) := HA.out.at_ 6
  have hnw : IntKind.u64.wrap (n : Int) = (n : Int) := IntWalk.u64_in _ (by omega)
  have HF := Lib.hid (fits_old_6 (H1.out) (id := id) (high := n) hid hs hi hk hh)
  unfold ptr at HF ⊢
  clear hA hb h hs hi hk hh hn hdn hid
  go_enter Try.func25, Try.ntmps25
  go_wp2_with (go_at_call 44; refine HF.out.mono ?_; rintro x w2 ⟨rfl, B2⟩)
  go_ret
  exact ⟨rfl, HB.out.trans (B2.mono HB.out.size)⟩
set_option maxHeartbeats 4000000 in
theorem hear_state (h : TZ w role g T Y) {id : Nat} {da : SA} {p : List UInt8} (hd : BS w da.a da.n da.c p) (hr : R8 id 0 da.n) (ho : (od id == T.srv) = true) (hw : wy id = true) :
    Calls Try.prog 11 #[ptr g, .agg (frc 8 id 0 0 0 false da SA0 SA0).toArray] w fun e w' => e = .returned (.int .u64 5) ∧ Below w.heap.size w w' := by
  obtain ⟨gf, hg⟩ : ∃ k, w.heap.size = k := ⟨_, rfl⟩
  have hA := CR.new w 37 (frc 8 id 0 0 0 false da SA0 SA0)
  have hb := below_alloc w (.cells (frc 8 id 0 0 0 false da SA0 SA0).toArray 37)
  have HO := Lib.hid (fun (x : World) (bx : Below w.heap.size w x) => odd_8_false x (id := id) (da := da) (RS.below hd bx (Nat.le_refl _)) hr)
  have HM := Lib.hid (fun (x : World) (hz : TZ x role g T Y) => may_8_tt hz (id := id) (off := 0) (fin := false) (da := da) (by have := hr.i; omega) ho hw)
  
  unfold frc SA0 at hA hb HO HM
  unfold frc SA0
  obtain ⟨W1, hW1⟩ : ∃ x, w.alloc (.cells ([.int .u64 8, .int .u64 (id : Int), .int .u64 0, .int .u64 0, .int .u64 0, .bool false, .slice da.a da.n da.c, .slice none 0 0, .slice none 0 0] : List Value).toArray 37) = x := ⟨_, rfl⟩
  rw [hW1, hg] at hA
  rw [hW1] at hb
  have HA := Lib.hid hA
  have HB := Lib.hid hb
  have H := Lib.hid h
  have H1 := Lib.hid (h.bel hb)
  unfold ptr at HM ⊢
  clear hA hb h hd hr
  go_enter Try.func11, Try.ntmps11
  go_upto_region 12 with (first
    | (refine L_loadG 37 _ rfl (by rfl) _ _ rfl _ _ HA.out.rng Try.underlying37 rfl iFr ?_)
    | (go_at_call 23; refine (HO.out W1 HB.out).mono ?_; rintro x w2 ⟨rfl, B2⟩
       have HA2 := Lib.hid (HA.out.bel B2)
       have HB2 := Lib.hid (HB.out.trans (B2.mono HB.out.size))
       have H2 := Lib.hid (H1.out.bel B2)
       have c0 : w2.cell? ⟨gf, 0, none⟩ = some (.int .u64 8) := HA2.out.at_ 0
       clear B2)
    | (refine L_loadG 37 _ rfl (by rfl) _ _ rfl _ _ HA2.out.rng Try.underlying37 rfl iFr ?_)
    | (go_at_call 24; refine (HM.out w2 H2.out).mono ?_; rintro x w3 ⟨rfl, B3⟩))
  have HA3 := Lib.hid (HA2.out.bel B3)
  have HB3 := Lib.hid (HB2.out.trans (B3.mono HB2.out.size))
  have H3 := Lib.hid (H2.out.bel B3)
  clear c0 B3 hW1 hg
  have c0 : w3.cell? ⟨gf, 0, none⟩ = some (.int .u64 8) := HA3.out.at_ 0
  go_wp2_with fail
  go_ret
  exact ⟨rfl, HB3.out⟩
set_option maxHeartbeats 4000000 in
theorem hear_new_true (h : TZ w role g T Y) {id : Nat} {da : SA} {p : List UInt8} (hd : BS w da.a da.n da.c p) (hr : R8 id 0 da.n) (hrd : ∀ ad, da.a = some ad → role ad.block = 0) (hn : NWS T Y id da.n) (hw : wy id = true) (hm : id / 4 < (T.so (od id) true).may) :
    Calls Try.prog 11 #[ptr g, .agg (frc 8 id 0 0 0 true da SA0 SA0).toArray] w fun e w' => e = .returned (.int .u64 0) ∧ ∃ role' Y', TZ w' role' g (bytesN T id da.n p) Y' ∧ Stq (fun r => r ≠ 0) w w' role role' ∧ YK Y Y' 1 := by
  obtain ⟨gf, hg⟩ : ∃ k, w.heap.size = k := ⟨_, rfl⟩
  have hA := CR.new w 37 (frc 8 id 0 0 0 true da SA0 SA0)
  have hb := below_alloc w (.cells (frc 8 id 0 0 0 true da SA0 SA0).toArray 37)
  have HO := Lib.hid (fun (x : World) (bx : Below w.heap.size w x) => odd_8_true x (id := id) (da := da) (RS.below hd bx (Nat.le_refl _)) hr)
  have HM := Lib.hid (fun (x : World) (hz : TZ x role g T Y) => may_8_ft_ok hz (id := id) (off := 0) (fin := true) (da := da) (by have := hr.i; omega) hn.ow hw hm)
  have HBY := Lib.hid (fun (x : World) (hz : TZ x role g T Y) (bx : Below w.heap.size w x) => bytes_new hz (id := id) (da := da) (p := p) (RS.below hd bx (Nat.le_refl _)) hrd hn)
  unfold frc SA0 ptr at HBY
  clear hrd
  unfold frc SA0 at hA hb HO HM
  unfold frc SA0
  obtain ⟨W1, hW1⟩ : ∃ x, w.alloc (.cells ([.int .u64 8, .int .u64 (id : Int), .int .u64 0, .int .u64 0, .int .u64 0, .bool true, .slice da.a da.n da.c, .slice none 0 0, .slice none 0 0] : List Value).toArray 37) = x := ⟨_, rfl⟩
  rw [hW1, hg] at hA
  rw [hW1] at hb
  have HA := Lib.hid hA
  have HB := Lib.hid hb
  have H := Lib.hid h
  have H1 := Lib.hid (h.bel hb)
  unfold ptr at HM ⊢
  clear hA hb h hd hr
  go_enter Try.func11, Try.ntmps11
  go_upto_region 12 with (first
    | (refine L_loadG 37 _ rfl (by rfl) _ _ rfl _ _ HA.out.rng Try.underlying37 rfl iFr ?_)
    | (go_at_call 23; refine (HO.out W1 HB.out).mono ?_; rintro x w2 ⟨rfl, B2⟩
       have HA2 := Lib.hid (HA.out.bel B2)
       have HB2 := Lib.hid (HB.out.trans (B2.mono HB.out.size))
       have H2 := Lib.hid (H1.out.bel B2)
       have c0 : w2.cell? ⟨gf, 0, none⟩ = some (.int .u64 8) := HA2.out.at_ 0
       clear B2)
    | (refine L_loadG 37 _ rfl (by rfl) _ _ rfl _ _ HA2.out.rng Try.underlying37 rfl iFr ?_)
    | (go_at_call 24; refine (HM.out w2 H2.out).mono ?_; rintro x w3 ⟨rfl, B3⟩))
  have HA3 := Lib.hid (HA2.out.bel B3)
  have HB3 := Lib.hid (HB2.out.trans (B3.mono HB2.out.size))
  have H3 := Lib.hid (H2.out.bel B3)
  clear c0 B3 hW1 hg
  have c0 : w3.cell? ⟨gf, 0, none⟩ = some (.int .u64 8) := HA3.out.at_ 0
  have HY := Lib.hid (HBY.out w3 H3.out HB3.out)
  go_wp2_with (first
    | (refine L_loadG 37 _ rfl (by rfl) _ _ rfl _ _ HA3.out.rng Try.underlying37 rfl iFr ?_)
    | (go_at_call 25; refine HY.out.mono ?_; rintro x w4 ⟨rfl, role4, Y4, z4, t4, y4⟩))
  go_ret
  exact ⟨rfl, role4, Y4, z4, (Stq.bel (R := fun r => r ≠ 0) HB3.out H.out.top).trans t4, y4⟩
set_option maxHeartbeats 4000000 in
theorem hear_over_true (h : TZ w role g T Y) {id : Nat} {da : SA} {p : List UInt8} (hd : BS w da.a da.n da.c p) (hr : R8 id 0 da.n) {s : StS} {i : InS} (ho : (od id == T.srv) = false) (hs : T.l id = some s) (hi : s.inn = some i) (hk : i.qu.known = true) (hh : i.qu.last < da.n) (hw : wy id = true) (hm : id / 4 < (T.so (od id) true).may) :
    Calls Try.prog 11 #[ptr g, .agg (frc 8 id 0 0 0 false da SA0 SA0).toArray] w fun e w' => e = .returned (.int .u64 6) ∧ Below w.heap.size w w' := by
  obtain ⟨gf, hg⟩ : ∃ k, w.heap.size = k := ⟨_, rfl⟩
  have hA := CR.new w 37 (frc 8 id 0 0 0 false da SA0 SA0)
  have hb := below_alloc w (.cells (frc 8 id 0 0 0 false da SA0 SA0).toArray 37)
  have HO := Lib.hid (fun (x : World) (bx : Below w.heap.size w x) => odd_8_false x (id := id) (da := da) (RS.below hd bx (Nat.le_refl _)) hr)
  have HM := Lib.hid (fun (x : World) (hz : TZ x role g T Y) => may_8_ft_ok hz (id := id) (off := 0) (fin := false) (da := da) (by have := hr.i; omega) ho hw hm)
  have HBY := Lib.hid (fun (x : World) (hz : TZ x role g T Y) => bytes_over hz (id := id) (da := da) (by have := hr.i; omega) hs hi hk hh hr.d)
  unfold frc SA0 ptr at HBY
  clear hs hi hk hh
  unfold frc SA0 at hA hb HO HM
  unfold frc SA0
  obtain ⟨W1, hW1⟩ : ∃ x, w.alloc (.cells ([.int .u64 8, .int .u64 (id : Int), .int .u64 0, .int .u64 0, .int .u64 0, .bool false, .slice da.a da.n da.c, .slice none 0 0, .slice none 0 0] : List Value).toArray 37) = x := ⟨_, rfl⟩
  rw [hW1, hg] at hA
  rw [hW1] at hb
  have HA := Lib.hid hA
  have HB := Lib.hid hb
  have H := Lib.hid h
  have H1 := Lib.hid (h.bel hb)
  unfold ptr at HM ⊢
  clear hA hb h hd hr
  go_enter Try.func11, Try.ntmps11
  go_upto_region 12 with (first
    | (refine L_loadG 37 _ rfl (by rfl) _ _ rfl _ _ HA.out.rng Try.underlying37 rfl iFr ?_)
    | (go_at_call 23; refine (HO.out W1 HB.out).mono ?_; rintro x w2 ⟨rfl, B2⟩
       have HA2 := Lib.hid (HA.out.bel B2)
       have HB2 := Lib.hid (HB.out.trans (B2.mono HB.out.size))
       have H2 := Lib.hid (H1.out.bel B2)
       have c0 : w2.cell? ⟨gf, 0, none⟩ = some (.int .u64 8) := HA2.out.at_ 0
       clear B2)
    | (refine L_loadG 37 _ rfl (by rfl) _ _ rfl _ _ HA2.out.rng Try.underlying37 rfl iFr ?_)
    | (go_at_call 24; refine (HM.out w2 H2.out).mono ?_; rintro x w3 ⟨rfl, B3⟩))
  have HA3 := Lib.hid (HA2.out.bel B3)
  have HB3 := Lib.hid (HB2.out.trans (B3.mono HB2.out.size))
  have H3 := Lib.hid (H2.out.bel B3)
  clear c0 B3 hW1 hg
  have c0 : w3.cell? ⟨gf, 0, none⟩ = some (.int .u64 8) := HA3.out.at_ 0
  have HY := Lib.hid (HBY.out w3 H3.out)
  go_wp2_with (first
    | (refine L_loadG 37 _ rfl (by rfl) _ _ rfl _ _ HA3.out.rng Try.underlying37 rfl iFr ?_)
    | (go_at_call 25; refine HY.out.mono ?_; rintro x w4 ⟨rfl, B4⟩))
  go_ret
  exact ⟨rfl, HB3.out.trans (B4.mono HB3.out.size)⟩
set_option maxHeartbeats 4000000 in
theorem hear_new_false (h : TZ w role g T Y) {id : Nat} {da : SA} {p : List UInt8} (hd : BS w da.a da.n da.c p) (hr : R8 id 0 da.n) (hrd : ∀ ad, da.a = some ad → role ad.block = 0) (hn : NWS T Y id da.n) (hw : wy id = false) (hm : id / 4 < (T.so (od id) false).may) :
    Calls Try.prog 11 #[ptr g, .agg (frc 8 id 0 0 0 true da SA0 SA0).toArray] w fun e w' => e = .returned (.int .u64 0) ∧ ∃ role' Y', TZ w' role' g (bytesN T id da.n p) Y' ∧ Stq (fun r => r ≠ 0) w w' role role' ∧ YK Y Y' 1 := by
  obtain ⟨gf, hg⟩ : ∃ k, w.heap.size = k := ⟨_, rfl⟩
  have hA := CR.new w 37 (frc 8 id 0 0 0 true da SA0 SA0)
  have hb := below_alloc w (.cells (frc 8 id 0 0 0 true da SA0 SA0).toArray 37)
  have HO := Lib.hid (fun (x : World) (bx : Below w.heap.size w x) => odd_8_true x (id := id) (da := da) (RS.below hd bx (Nat.le_refl _)) hr)
  have HM := Lib.hid (fun (x : World) (hz : TZ x role g T Y) => may_8_ff_ok hz (id := id) (off := 0) (fin := true) (da := da) (by have := hr.i; omega) hn.ow hw hm)
  have HBY := Lib.hid (fun (x : World) (hz : TZ x role g T Y) (bx : Below w.heap.size w x) => bytes_new hz (id := id) (da := da) (p := p) (RS.below hd bx (Nat.le_refl _)) hrd hn)
  unfold frc SA0 ptr at HBY
  clear hrd
  unfold frc SA0 at hA hb HO HM
  unfold frc SA0
  obtain ⟨W1, hW1⟩ : ∃ x, w.alloc (.cells ([.int .u64 8, .int .u64 (id : Int), .int .u64 0, .int .u64 0, .int .u64 0, .bool true, .slice da.a da.n da.c, .slice none 0 0, .slice none 0 0] : List Value).toArray 37) = x := ⟨_, rfl⟩
  rw [hW1, hg] at hA
  rw [hW1] at hb
  have HA := Lib.hid hA
  have HB := Lib.hid hb
  have H := Lib.hid h
  have H1 := Lib.hid (h.bel hb)
  unfold ptr at HM ⊢
  clear hA hb h hd hr
  go_enter Try.func11, Try.ntmps11
  go_upto_region 12 with (first
    | (refine L_loadG 37 _ rfl (by rfl) _ _ rfl _ _ HA.out.rng Try.underlying37 rfl iFr ?_)
    | (go_at_call 23; refine (HO.out W1 HB.out).mono ?_; rintro x w2 ⟨rfl, B2⟩
       have HA2 := Lib.hid (HA.out.bel B2)
       have HB2 := Lib.hid (HB.out.trans (B2.mono HB.out.size))
       have H2 := Lib.hid (H1.out.bel B2)
       have c0 : w2.cell? ⟨gf, 0, none⟩ = some (.int .u64 8) := HA2.out.at_ 0
       clear B2)
    | (refine L_loadG 37 _ rfl (by rfl) _ _ rfl _ _ HA2.out.rng Try.underlying37 rfl iFr ?_)
    | (go_at_call 24; refine (HM.out w2 H2.out).mono ?_; rintro x w3 ⟨rfl, B3⟩))
  have HA3 := Lib.hid (HA2.out.bel B3)
  have HB3 := Lib.hid (HB2.out.trans (B3.mono HB2.out.size))
  have H3 := Lib.hid (H2.out.bel B3)
  clear c0 B3 hW1 hg
  have c0 : w3.cell? ⟨gf, 0, none⟩ = some (.int .u64 8) := HA3.out.at_ 0
  have HY := Lib.hid (HBY.out w3 H3.out HB3.out)
  go_wp2_with (first
    | (refine L_loadG 37 _ rfl (by rfl) _ _ rfl _ _ HA3.out.rng Try.underlying37 rfl iFr ?_)
    | (go_at_call 25; refine HY.out.mono ?_; rintro x w4 ⟨rfl, role4, Y4, z4, t4, y4⟩))
  go_ret
  exact ⟨rfl, role4, Y4, z4, (Stq.bel (R := fun r => r ≠ 0) HB3.out H.out.top).trans t4, y4⟩
set_option maxHeartbeats 4000000 in
theorem hear_over_false (h : TZ w role g T Y) {id : Nat} {da : SA} {p : List UInt8} (hd : BS w da.a da.n da.c p) (hr : R8 id 0 da.n) {s : StS} {i : InS} (ho : (od id == T.srv) = false) (hs : T.l id = some s) (hi : s.inn = some i) (hk : i.qu.known = true) (hh : i.qu.last < da.n) (hw : wy id = false) (hm : id / 4 < (T.so (od id) false).may) :
    Calls Try.prog 11 #[ptr g, .agg (frc 8 id 0 0 0 false da SA0 SA0).toArray] w fun e w' => e = .returned (.int .u64 6) ∧ Below w.heap.size w w' := by
  obtain ⟨gf, hg⟩ : ∃ k, w.heap.size = k := ⟨_, rfl⟩
  have hA := CR.new w 37 (frc 8 id 0 0 0 false da SA0 SA0)
  have hb := below_alloc w (.cells (frc 8 id 0 0 0 false da SA0 SA0).toArray 37)
  have HO := Lib.hid (fun (x : World) (bx : Below w.heap.size w x) => odd_8_false x (id := id) (da := da) (RS.below hd bx (Nat.le_refl _)) hr)
  have HM := Lib.hid (fun (x : World) (hz : TZ x role g T Y) => may_8_ff_ok hz (id := id) (off := 0) (fin := false) (da := da) (by have := hr.i; omega) ho hw hm)
  have HBY := Lib.hid (fun (x : World) (hz : TZ x role g T Y) => bytes_over hz (id := id) (da := da) (by have := hr.i; omega) hs hi hk hh hr.d)
  unfold frc SA0 ptr at HBY
  clear hs hi hk hh
  unfold frc SA0 at hA hb HO HM
  unfold frc SA0
  obtain ⟨W1, hW1⟩ : ∃ x, w.alloc (.cells ([.int .u64 8, .int .u64 (id : Int), .int .u64 0, .int .u64 0, .int .u64 0, .bool false, .slice da.a da.n da.c, .slice none 0 0, .slice none 0 0] : List Value).toArray 37) = x := ⟨_, rfl⟩
  rw [hW1, hg] at hA
  rw [hW1] at hb
  have HA := Lib.hid hA
  have HB := Lib.hid hb
  have H := Lib.hid h
  have H1 := Lib.hid (h.bel hb)
  unfold ptr at HM ⊢
  clear hA hb h hd hr
  go_enter Try.func11, Try.ntmps11
  go_upto_region 12 with (first
    | (refine L_loadG 37 _ rfl (by rfl) _ _ rfl _ _ HA.out.rng Try.underlying37 rfl iFr ?_)
    | (go_at_call 23; refine (HO.out W1 HB.out).mono ?_; rintro x w2 ⟨rfl, B2⟩
       have HA2 := Lib.hid (HA.out.bel B2)
       have HB2 := Lib.hid (HB.out.trans (B2.mono HB.out.size))
       have H2 := Lib.hid (H1.out.bel B2)
       have c0 : w2.cell? ⟨gf, 0, none⟩ = some (.int .u64 8) := HA2.out.at_ 0
       clear B2)
    | (refine L_loadG 37 _ rfl (by rfl) _ _ rfl _ _ HA2.out.rng Try.underlying37 rfl iFr ?_)
    | (go_at_call 24; refine (HM.out w2 H2.out).mono ?_; rintro x w3 ⟨rfl, B3⟩))
  have HA3 := Lib.hid (HA2.out.bel B3)
  have HB3 := Lib.hid (HB2.out.trans (B3.mono HB2.out.size))
  have H3 := Lib.hid (H2.out.bel B3)
  clear c0 B3 hW1 hg
  have c0 : w3.cell? ⟨gf, 0, none⟩ = some (.int .u64 8) := HA3.out.at_ 0
  have HY := Lib.hid (HBY.out w3 H3.out)
  go_wp2_with (first
    | (refine L_loadG 37 _ rfl (by rfl) _ _ rfl _ _ HA3.out.rng Try.underlying37 rfl iFr ?_)
    | (go_at_call 25; refine HY.out.mono ?_; rintro x w4 ⟨rfl, B4⟩))
  go_ret
  exact ⟨rfl, HB3.out.trans (B4.mono HB3.out.size)⟩
end
end Go.Proofs.Yteekafpkbdbadaa.Pi
