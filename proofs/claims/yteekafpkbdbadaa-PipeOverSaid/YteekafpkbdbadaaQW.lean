/- pipe: Hear at a sort's limit; receiver; Ready of one patch. -/
import Derived.Test.YteekafpkbdbadaaQH
set_option maxRecDepth 100000
set_option linter.unusedVariables false
namespace Go.Proofs.Yteekafpkbdbadaa.Pi
open Go.RowKit
section
variable {w w' : World} {role : Nat → Nat} {g : Nat} {T : TaS} {Y : TaY}
set_option maxHeartbeats 4000000 in
theorem hear_lim_true (h : TZ w role g T Y) {id : Nat} (hid : id < 4611686018427387904) (ho : (od id == T.srv) = false) (hw : wy id = true) (hm : (T.so (od id) true).may ≤ id / 4) :
    Calls Try.prog 11 #[ptr g, .agg (frc 8 id 0 0 0 true SA0 SA0 SA0).toArray] w fun e w' => e = .returned (.int .u64 4) ∧ Below w.heap.size w w' := by
  obtain ⟨gf, hg⟩ : ∃ k, w.heap.size = k := ⟨_, rfl⟩
  have hA := CR.new w 37 (frc 8 id 0 0 0 true SA0 SA0 SA0)
  have hb := below_alloc w (.cells (frc 8 id 0 0 0 true SA0 SA0 SA0).toArray 37)
  have HO := Lib.hid (fun (x : World) (bx : Below w.heap.size w x) => odd_8_true x (id := id) (da := SA0) (t := []) (RS_nil x 1) ⟨by omega, (show 0 + 0 ≤ _ by decide), (show 0 ≤ 1200 by decide)⟩)
  have HM := Lib.hid (fun (x : World) (hz : TZ x role g T Y) => may_8_ft_lim hz (id := id) (off := 0) (fin := true) (da := SA0) (by omega) ho hw hm)
  
  unfold frc SA0 at hA hb HO HM
  unfold frc SA0
  obtain ⟨W1, hW1⟩ : ∃ x, w.alloc (.cells ([.int .u64 8, .int .u64 (id : Int), .int .u64 0, .int .u64 0, .int .u64 0, .bool true, .slice none 0 0, .slice none 0 0, .slice none 0 0] : List Value).toArray 37) = x := ⟨_, rfl⟩
  rw [hW1, hg] at hA
  rw [hW1] at hb
  have HA := Lib.hid hA
  have HB := Lib.hid hb
  have H := Lib.hid h
  have H1 := Lib.hid (h.bel hb)
  unfold ptr at HM ⊢
  clear hA hb h hid
  go_enter Try.func11, Try.ntmps11
  go_upto_region 12 with (first
    | (refine L_loadG 37 _ rfl (by rfl) _ _ rfl _ _ HA.out.rng Try.underlying37 rfl iFr ?_)
    | (go_at_call 23; refine (HO.out W1 HB.out).mono ?_; rintro x w2 ⟨rfl, B2⟩
       have HA2 := Lib.hid (HA.out.bel B2)
       have HB2 := Lib.hid (HB.out.trans (B2.mono HB.out.size))
       have H2 := Lib.hid (H1.out.bel B2)
       have c0 : w2.cell? ⟨gf, 0, none⟩ = some (.int .u64 8) := HA2.out.at_ 0
       clear B2)
    | (refine L_loadG 37 _ rfl (by rfl) _ _ rfl _ _ HA2.out.rng Try.underlying37 rfl iFr ?_)
    | (go_at_call 24; refine (HM.out w2 H2.out).mono ?_; rintro x w3 ⟨rfl, B3⟩))
  have HA3 := Lib.hid (HA2.out.bel B3)
  have HB3 := Lib.hid (HB2.out.trans (B3.mono HB2.out.size))
  have H3 := Lib.hid (H2.out.bel B3)
  clear c0 B3 hW1 hg
  have c0 : w3.cell? ⟨gf, 0, none⟩ = some (.int .u64 8) := HA3.out.at_ 0
  go_wp2_with fail
  go_ret
  exact ⟨rfl, HB3.out⟩
set_option maxHeartbeats 4000000 in
theorem hear_lim_false (h : TZ w role g T Y) {id : Nat} (hid : id < 4611686018427387904) (ho : (od id == T.srv) = false) (hw : wy id = false) (hm : (T.so (od id) false).may ≤ id / 4) :
    Calls Try.prog 11 #[ptr g, .agg (frc 8 id 0 0 0 true SA0 SA0 SA0).toArray] w fun e w' => e = .returned (.int .u64 4) ∧ Below w.heap.size w w' := by
  obtain ⟨gf, hg⟩ : ∃ k, w.heap.size = k := ⟨_, rfl⟩
  have hA := CR.new w 37 (frc 8 id 0 0 0 true SA0 SA0 SA0)
  have hb := below_alloc w (.cells (frc 8 id 0 0 0 true SA0 SA0 SA0).toArray 37)
  have HO := Lib.hid (fun (x : World) (bx : Below w.heap.size w x) => odd_8_true x (id := id) (da := SA0) (t := []) (RS_nil x 1) ⟨by omega, (show 0 + 0 ≤ _ by decide), (show 0 ≤ 1200 by decide)⟩)
  have HM := Lib.hid (fun (x : World) (hz : TZ x role g T Y) => may_8_ff_lim hz (id := id) (off := 0) (fin := true) (da := SA0) (by omega) ho hw hm)
  
  unfold frc SA0 at hA hb HO HM
  unfold frc SA0
  obtain ⟨W1, hW1⟩ : ∃ x, w.alloc (.cells ([.int .u64 8, .int .u64 (id : Int), .int .u64 0, .int .u64 0, .int .u64 0, .bool true, .slice none 0 0, .slice none 0 0, .slice none 0 0] : List Value).toArray 37) = x := ⟨_, rfl⟩
  rw [hW1, hg] at hA
  rw [hW1] at hb
  have HA := Lib.hid hA
  have HB := Lib.hid hb
  have H := Lib.hid h
  have H1 := Lib.hid (h.bel hb)
  unfold ptr at HM ⊢
  clear hA hb h hid
  go_enter Try.func11, Try.ntmps11
  go_upto_region 12 with (first
    | (refine L_loadG 37 _ rfl (by rfl) _ _ rfl _ _ HA.out.rng Try.underlying37 rfl iFr ?_)
    | (go_at_call 23; refine (HO.out W1 HB.out).mono ?_; rintro x w2 ⟨rfl, B2⟩
       have HA2 := Lib.hid (HA.out.bel B2)
       have HB2 := Lib.hid (HB.out.trans (B2.mono HB.out.size))
       have H2 := Lib.hid (H1.out.bel B2)
       have c0 : w2.cell? ⟨gf, 0, none⟩ = some (.int .u64 8) := HA2.out.at_ 0
       clear B2)
    | (refine L_loadG 37 _ rfl (by rfl) _ _ rfl _ _ HA2.out.rng Try.underlying37 rfl iFr ?_)
    | (go_at_call 24; refine (HM.out w2 H2.out).mono ?_; rintro x w3 ⟨rfl, B3⟩))
  have HA3 := Lib.hid (HA2.out.bel B3)
  have HB3 := Lib.hid (HB2.out.trans (B3.mono HB2.out.size))
  have H3 := Lib.hid (H2.out.bel B3)
  clear c0 B3 hW1 hg
  have c0 : w3.cell? ⟨gf, 0, none⟩ = some (.int .u64 8) := HA3.out.at_ 0
  go_wp2_with fail
  go_ret
  exact ⟨rfl, HB3.out⟩
theorem receiver_any (h : TZ w role g T Y) {id ib : Nat} {s : StS} (hid : id < 18446744073709551616) (hs : T.l id = some s) (hib : w.cell? ⟨Y.sb id, 6, none⟩ = some (ptr ib)) :
    Calls Try.prog 34 #[ptr g, .int .u64 (id : Int)] w fun e w' => e = .returned (.tuple #[ptr ib, .int .i64 0]) ∧ w = w' := by
  obtain ⟨sb, hsb⟩ : ∃ b, Y.sb id = b := ⟨_, rfl⟩
  rw [hsb] at hib
  have g9 : w.cell? ⟨g, 9, none⟩ = some (.map (some Y.ml)) := h.row.cr.at_ 9
  have l0 : (Instr.lookup 56 (.map (some Y.ml)) (.int .u64 (id : Int)) false).run Try.prog w = .ok (.pointer (some ⟨sb, 0, none⟩)) w := by have hq := h.lm.1.look id hid; simp only [hs, hsb, Option.map_some] at hq; exact hq
  unfold ptr at hib ⊢
  clear h hs hsb hid
  go_enter Try.func34, Try.ntmps34
  go_wp2
  go_ret2
  exact ⟨rfl, rfl⟩
/-- one patch from the first byte on -/
structure Q1 (w : World) (qb : Nat) (aD : Option Addr) (cD : Nat) (a2 : Option Addr) (n c2 : Nat) (la : Nat) (kn : Bool) : Prop where
  qr : CR w qb 111 [.slice aD 1 cD, u64 0, u64 n, u64 la, .bool kn]
  pr : RS w 2 aD 1 cD [.int .u64 0, .slice a2 n c2]
theorem Q1.bel {qb : Nat} {aD a2 : Option Addr} {cD n c2 la : Nat} {kn : Bool} (h : Q1 w qb aD cD a2 n c2 la kn) (hb : Below w.heap.size w w') : Q1 w' qb aD cD a2 n c2 la kn := ⟨h.qr.bel hb, RS.below h.pr hb (Nat.le_refl _)⟩
end
end Go.Proofs.Yteekafpkbdbadaa.Pi
