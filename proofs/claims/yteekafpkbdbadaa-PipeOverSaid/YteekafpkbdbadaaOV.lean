/- pipe: may, for Stream frames. -/
import Derived.Test.YteekafpkbdbadaaOM
import Derived.Test.YteekafpkbdbadaaON
set_option maxRecDepth 100000
set_option linter.unusedVariables false
namespace Go.Proofs.Yteekafpkbdbadaa.Pi
open Go.RowKit
/-- may a stream have such a frame (that brings)? -/
def mayS (T : TaS) (id : Nat) : Nat := if (od id == T.srv) && (wy id || (T.l id).isNone) then 5 else if !(od id == T.srv) && decide ((T.so (od id) (wy id)).may ≤ id / 4) then 4 else 0
theorem Q_loadG {ops : Array Oper} {C : World → Prop} {o : Oper} {f : Act} {K : Act → Prop} {E : Prop} (hg : Region.wanted o (yielded ops f.tmps) = true) (ty : TypeId) (x : Operand) (ho : o.op = .load ty x)
    (b i : Nat) (hx : f.eval x = .pointer (some ⟨b, i, none⟩)) (cs : List Value) (d : TypeDesc) (hc : ∀ w, C w → w.rangeAt b i cs) (hu : Try.prog.underlying ty = some d) (hd : d.isRow = true) (hi : (Try.prog.info? ty).map (·.size) = some cs.length)
    (h : K (f.put o.dst (.agg cs.toArray))) : if Region.wanted o (yielded ops f.tmps) = true then o.quiet Try.prog f C K else E := by
  rw [if_pos hg]
  refine ⟨_, fun w hw => ?_, h⟩
  unfold Oper.quietAt execOp
  simp only [ho, hx, Instr.loadAt, Instr.sureAddr, Sem.run_bind, Sem.run_pure, Result.andThen_ok, run_loadVar_mid w b i ty cs d (hc w hw) hu hd hi]
  exact ⟨rfl, rfl⟩
section
variable {w w' : World} {role : Nat → Nat} {g : Nat} {T : TaS} {Y : TaY}
set_option maxHeartbeats 4000000 in
theorem may_8_tt (h : TZ w role g T Y) {id off : Nat} {fin : Bool} {da : SA} (hid : id < 18446744073709551616) (ho : (od id == T.srv) = true) (hw : wy id = true) :
    Calls Try.prog 24 #[ptr g, .agg (frc 8 id off 0 0 fin da SA0 SA0).toArray] w fun e w' => e = .returned (.int .u64 5) ∧ Below w.heap.size w w' := by
  obtain ⟨gf, hg⟩ : ∃ k, w.heap.size = k := ⟨_, rfl⟩
  have hA := CR.new w 37 (frc 8 id off 0 0 fin da SA0 SA0)
  have hb := below_alloc w (.cells (frc 8 id off 0 0 fin da SA0 SA0).toArray 37)
  unfold frc SA0 at hA hb
  unfold frc SA0
  obtain ⟨W1, hW1⟩ : ∃ x, w.alloc (.cells ([.int .u64 8, .int .u64 (id : Int), .int .u64 (off : Int), .int .u64 0, .int .u64 0, .bool fin, .slice da.a da.n da.c, .slice none 0 0, .slice none 0 0] : List Value).toArray 37) = x := ⟨_, rfl⟩
  rw [hW1, hg] at hA
  rw [hW1] at hb
  have HA := Lib.hid hA
  have HB := Lib.hid hb
  have HH := Lib.hid h
  have hof := fun (x : World) => of_any x id hid
  obtain ⟨sv, hsv⟩ : ∃ b, T.srv = b := ⟨_, rfl⟩
  obtain ⟨o1, ho1⟩ : ∃ b, od id = b := ⟨_, rfl⟩
  obtain ⟨o2, ho2⟩ : ∃ b, wy id = b := ⟨_, rfl⟩
  rw [ho1, ho2] at hof
  rw [ho1, hsv] at ho
  rw [ho2] at hw; subst hw
  have HOF := Lib.hid hof
  have H1 := Lib.hid (h.bel hb)
  have HSV := Lib.hid hsv
  have hF1 : W1.cell? ⟨gf, 1, none⟩ = some (.int .u64 (id : Int)) := HA.out.at_ 1
  unfold ptr
  clear hA hb h hof ho1 ho2 hsv
  go_enter Try.func24, Try.ntmps24
  go_upto_region 2 with (first
    | (go_at_call 40; refine (HOF.out W1).mono ?_; rintro x w2 ⟨rfl, B2⟩
       have HA2 := Lib.hid (HA.out.bel B2)
       have HB2 := Lib.hid (HB.out.trans (B2.mono HB.out.size))
       have HZ2 := Lib.hid (H1.out.bel B2)
       clear B2
       obtain ⟨kk, hkk⟩ : ∃ q, w2.heap.size = q := ⟨_, rfl⟩
       have hrk := CR.new w2 66 [.bool false, .bool false]
       rw [hkk] at hrk
       have HRK := Lib.hid hrk
       have HKK := Lib.hid hkk
       clear hrk)
    | (refine L_storeRow (old := [.bool false, .bool false]) (new := [.bool o1, .bool true]) rfl 66 _ _ rfl rfl rfl HRK.out iKey rfl rfl (by simp [Value.oneCell']) ?_; intro w3 hz3 hg3; have HZK := Lib.hid hz3; have HG3 := Lib.hid hg3; clear hz3 hg3))
  have B3 : Below w2.heap.size w2 w3 := (below_alloc w2 (.cells [.bool false, .bool false].toArray 66)).grown HG3.out (by simp) (fun j hj => by cases hj; rw [HKK.out]; exact Nat.le_refl _)
  have HA3 := Lib.hid (HA2.out.bel B3)
  have HB3 := Lib.hid (HB2.out.trans (B3.mono HB2.out.size))
  have HZ3 := Lib.hid (HZ2.out.bel B3)
  clear B3 hkk hF1 hW1 hg
  have k0 : w3.cell? ⟨kk, 0, none⟩ = some (.bool o1) := HZK.out.at_ 0
  have g0 : w3.cell? ⟨g, 0, none⟩ = some (.bool sv) := by rw [← HSV.out]; exact HZ3.out.row.cr.at_ 0
  go_quiet (fail)
  clear k0 g0
  have bV := bel_drewN w3.heap.size w3 nq
  obtain ⟨U, hU⟩ : ∃ q, w3.drewN nq = q := ⟨_, rfl⟩
  rw [hU] at bV ⊢
  have HZU := Lib.hid (HZ3.out.bel bV)
  have HAU := Lib.hid (HA3.out.bel bV)
  have HBU := Lib.hid (HB3.out.trans (bV.mono HB3.out.size))
  have HKU := Lib.hid (HZK.out.bel bV)
  clear bV hU
  have c0 : U.cell? ⟨gf, 0, none⟩ = some (.int .u64 8) := HAU.out.at_ 0
  have c1 : U.cell? ⟨gf, 1, none⟩ = some (.int .u64 (id : Int)) := HAU.out.at_ 1
  have k1 : U.cell? ⟨kk, 1, none⟩ = some (.bool true) := HKU.out.at_ 1
  go_wp2_with fail
  go_ret
  exact ⟨rfl, HBU.out⟩
set_option maxHeartbeats 4000000 in
theorem may_8_tf_none (h : TZ w role g T Y) {id off : Nat} {fin : Bool} {da : SA} (hid : id < 18446744073709551616) (ho : (od id == T.srv) = true) (hw : wy id = false) (hl : T.l id = none) :
    Calls Try.prog 24 #[ptr g, .agg (frc 8 id off 0 0 fin da SA0 SA0).toArray] w fun e w' => e = .returned (.int .u64 5) ∧ Below w.heap.size w w' := by
  obtain ⟨gf, hg⟩ : ∃ k, w.heap.size = k := ⟨_, rfl⟩
  have hA := CR.new w 37 (frc 8 id off 0 0 fin da SA0 SA0)
  have hb := below_alloc w (.cells (frc 8 id off 0 0 fin da SA0 SA0).toArray 37)
  unfold frc SA0 at hA hb
  unfold frc SA0
  obtain ⟨W1, hW1⟩ : ∃ x, w.alloc (.cells ([.int .u64 8, .int .u64 (id : Int), .int .u64 (off : Int), .int .u64 0, .int .u64 0, .bool fin, .slice da.a da.n da.c, .slice none 0 0, .slice none 0 0] : List Value).toArray 37) = x := ⟨_, rfl⟩
  rw [hW1, hg] at hA
  rw [hW1] at hb
  have HA := Lib.hid hA
  have HB := Lib.hid hb
  have HH := Lib.hid h
  have hof := fun (x : World) => of_any x id hid
  obtain ⟨sv, hsv⟩ : ∃ b, T.srv = b := ⟨_, rfl⟩
  obtain ⟨o1, ho1⟩ : ∃ b, od id = b := ⟨_, rfl⟩
  obtain ⟨o2, ho2⟩ : ∃ b, wy id = b := ⟨_, rfl⟩
  rw [ho1, ho2] at hof
  rw [ho1, hsv] at ho
  rw [ho2] at hw; subst hw; have HL := Lib.hid hl; have HID := Lib.hid hid; clear hl
  have HOF := Lib.hid hof
  have H1 := Lib.hid (h.bel hb)
  have HSV := Lib.hid hsv
  have hF1 : W1.cell? ⟨gf, 1, none⟩ = some (.int .u64 (id : Int)) := HA.out.at_ 1
  unfold ptr
  clear hA hb h hof ho1 ho2 hsv
  go_enter Try.func24, Try.ntmps24
  go_upto_region 2 with (first
    | (go_at_call 40; refine (HOF.out W1).mono ?_; rintro x w2 ⟨rfl, B2⟩
       have HA2 := Lib.hid (HA.out.bel B2)
       have HB2 := Lib.hid (HB.out.trans (B2.mono HB.out.size))
       have HZ2 := Lib.hid (H1.out.bel B2)
       clear B2
       obtain ⟨kk, hkk⟩ : ∃ q, w2.heap.size = q := ⟨_, rfl⟩
       have hrk := CR.new w2 66 [.bool false, .bool false]
       rw [hkk] at hrk
       have HRK := Lib.hid hrk
       have HKK := Lib.hid hkk
       clear hrk)
    | (refine L_storeRow (old := [.bool false, .bool false]) (new := [.bool o1, .bool false]) rfl 66 _ _ rfl rfl rfl HRK.out iKey rfl rfl (by simp [Value.oneCell']) ?_; intro w3 hz3 hg3; have HZK := Lib.hid hz3; have HG3 := Lib.hid hg3; clear hz3 hg3))
  have B3 : Below w2.heap.size w2 w3 := (below_alloc w2 (.cells [.bool false, .bool false].toArray 66)).grown HG3.out (by simp) (fun j hj => by cases hj; rw [HKK.out]; exact Nat.le_refl _)
  have HA3 := Lib.hid (HA2.out.bel B3)
  have HB3 := Lib.hid (HB2.out.trans (B3.mono HB2.out.size))
  have HZ3 := Lib.hid (HZ2.out.bel B3)
  clear B3 hkk hF1 hW1 hg
  have k0 : w3.cell? ⟨kk, 0, none⟩ = some (.bool o1) := HZK.out.at_ 0
  have g0 : w3.cell? ⟨g, 0, none⟩ = some (.bool sv) := by rw [← HSV.out]; exact HZ3.out.row.cr.at_ 0
  go_quiet (fail)
  clear k0 g0
  have bV := bel_drewN w3.heap.size w3 nq
  obtain ⟨U, hU⟩ : ∃ q, w3.drewN nq = q := ⟨_, rfl⟩
  rw [hU] at bV ⊢
  have HZU := Lib.hid (HZ3.out.bel bV)
  have HAU := Lib.hid (HA3.out.bel bV)
  have HBU := Lib.hid (HB3.out.trans (bV.mono HB3.out.size))
  have HKU := Lib.hid (HZK.out.bel bV)
  clear bV hU
  have c0 : U.cell? ⟨gf, 0, none⟩ = some (.int .u64 8) := HAU.out.at_ 0
  have c1 : U.cell? ⟨gf, 1, none⟩ = some (.int .u64 (id : Int)) := HAU.out.at_ 1
  have k1 : U.cell? ⟨kk, 1, none⟩ = some (.bool false) := HKU.out.at_ 1
  go_wp2_with fail
  have g9 : U.cell? ⟨g, 9, none⟩ = some (.map (some Y.ml)) := HZU.out.row.cr.at_ 9
  have l0 : ∀ m, (Instr.lookup 56 (.map (some Y.ml)) (.int .u64 (id : Int)) false).run Try.prog (U.drewN m) = .ok (.pointer none) (U.drewN m) := fun m => by have hq := (HZU.out.bel (bel_drewN _ U m)).lm.1.look id HID.out; simp only [HL.out, Option.map_none] at hq; exact hq
  go_quiet (fail)
  
  have bV := bel_drewN U.heap.size U nq
  obtain ⟨V, hV⟩ : ∃ q, U.drewN nq = q := ⟨_, rfl⟩
  rw [hV] at bV ⊢
  have HZV := Lib.hid (HZU.out.bel bV)
  have HAV := Lib.hid (HAU.out.bel bV)
  have HBV := Lib.hid (HBU.out.trans (bV.mono HBU.out.size))
  have HKV := Lib.hid (HKU.out.bel bV)
  clear bV hV
  have e1 : V.cell? ⟨gf, 1, none⟩ = some (.int .u64 (id : Int)) := HAV.out.at_ 1
  clear c0 c1 k1 g9 l0
  go_wp2_with fail
  go_ret
  exact ⟨rfl, HBV.out⟩
set_option maxHeartbeats 4000000 in
theorem may_8_tf_some (h : TZ w role g T Y) {id off : Nat} {fin : Bool} {da : SA} (hid : id < 18446744073709551616) (ho : (od id == T.srv) = true) (hw : wy id = false) {x : StS} (hl : T.l id = some x) :
    Calls Try.prog 24 #[ptr g, .agg (frc 8 id off 0 0 fin da SA0 SA0).toArray] w fun e w' => e = .returned (.int .u64 0) ∧ Below w.heap.size w w' := by
  obtain ⟨gf, hg⟩ : ∃ k, w.heap.size = k := ⟨_, rfl⟩
  have hA := CR.new w 37 (frc 8 id off 0 0 fin da SA0 SA0)
  have hb := below_alloc w (.cells (frc 8 id off 0 0 fin da SA0 SA0).toArray 37)
  unfold frc SA0 at hA hb
  unfold frc SA0
  obtain ⟨W1, hW1⟩ : ∃ x, w.alloc (.cells ([.int .u64 8, .int .u64 (id : Int), .int .u64 (off : Int), .int .u64 0, .int .u64 0, .bool fin, .slice da.a da.n da.c, .slice none 0 0, .slice none 0 0] : List Value).toArray 37) = x := ⟨_, rfl⟩
  rw [hW1, hg] at hA
  rw [hW1] at hb
  have HA := Lib.hid hA
  have HB := Lib.hid hb
  have HH := Lib.hid h
  have hof := fun (x : World) => of_any x id hid
  obtain ⟨sv, hsv⟩ : ∃ b, T.srv = b := ⟨_, rfl⟩
  obtain ⟨o1, ho1⟩ : ∃ b, od id = b := ⟨_, rfl⟩
  obtain ⟨o2, ho2⟩ : ∃ b, wy id = b := ⟨_, rfl⟩
  rw [ho1, ho2] at hof
  rw [ho1, hsv] at ho
  rw [ho2] at hw; subst hw; have HL := Lib.hid hl; have HID := Lib.hid hid; obtain ⟨sb, hsb⟩ : ∃ b, Y.sb id = b := ⟨_, rfl⟩; have HSB := Lib.hid hsb; clear hl hsb
  have HOF := Lib.hid hof
  have H1 := Lib.hid (h.bel hb)
  have HSV := Lib.hid hsv
  have hF1 : W1.cell? ⟨gf, 1, none⟩ = some (.int .u64 (id : Int)) := HA.out.at_ 1
  unfold ptr
  clear hA hb h hof ho1 ho2 hsv
  go_enter Try.func24, Try.ntmps24
  go_upto_region 2 with (first
    | (go_at_call 40; refine (HOF.out W1).mono ?_; rintro x w2 ⟨rfl, B2⟩
       have HA2 := Lib.hid (HA.out.bel B2)
       have HB2 := Lib.hid (HB.out.trans (B2.mono HB.out.size))
       have HZ2 := Lib.hid (H1.out.bel B2)
       clear B2
       obtain ⟨kk, hkk⟩ : ∃ q, w2.heap.size = q := ⟨_, rfl⟩
       have hrk := CR.new w2 66 [.bool false, .bool false]
       rw [hkk] at hrk
       have HRK := Lib.hid hrk
       have HKK := Lib.hid hkk
       clear hrk)
    | (refine L_storeRow (old := [.bool false, .bool false]) (new := [.bool o1, .bool false]) rfl 66 _ _ rfl rfl rfl HRK.out iKey rfl rfl (by simp [Value.oneCell']) ?_; intro w3 hz3 hg3; have HZK := Lib.hid hz3; have HG3 := Lib.hid hg3; clear hz3 hg3))
  have B3 : Below w2.heap.size w2 w3 := (below_alloc w2 (.cells [.bool false, .bool false].toArray 66)).grown HG3.out (by simp) (fun j hj => by cases hj; rw [HKK.out]; exact Nat.le_refl _)
  have HA3 := Lib.hid (HA2.out.bel B3)
  have HB3 := Lib.hid (HB2.out.trans (B3.mono HB2.out.size))
  have HZ3 := Lib.hid (HZ2.out.bel B3)
  clear B3 hkk hF1 hW1 hg
  have k0 : w3.cell? ⟨kk, 0, none⟩ = some (.bool o1) := HZK.out.at_ 0
  have g0 : w3.cell? ⟨g, 0, none⟩ = some (.bool sv) := by rw [← HSV.out]; exact HZ3.out.row.cr.at_ 0
  go_quiet (fail)
  clear k0 g0
  have bV := bel_drewN w3.heap.size w3 nq
  obtain ⟨U, hU⟩ : ∃ q, w3.drewN nq = q := ⟨_, rfl⟩
  rw [hU] at bV ⊢
  have HZU := Lib.hid (HZ3.out.bel bV)
  have HAU := Lib.hid (HA3.out.bel bV)
  have HBU := Lib.hid (HB3.out.trans (bV.mono HB3.out.size))
  have HKU := Lib.hid (HZK.out.bel bV)
  clear bV hU
  have c0 : U.cell? ⟨gf, 0, none⟩ = some (.int .u64 8) := HAU.out.at_ 0
  have c1 : U.cell? ⟨gf, 1, none⟩ = some (.int .u64 (id : Int)) := HAU.out.at_ 1
  have k1 : U.cell? ⟨kk, 1, none⟩ = some (.bool false) := HKU.out.at_ 1
  go_wp2_with fail
  have g9 : U.cell? ⟨g, 9, none⟩ = some (.map (some Y.ml)) := HZU.out.row.cr.at_ 9
  have l0 : ∀ m, (Instr.lookup 56 (.map (some Y.ml)) (.int .u64 (id : Int)) false).run Try.prog (U.drewN m) = .ok (.pointer (some ⟨sb, 0, none⟩)) (U.drewN m) := fun m => by have hq := (HZU.out.bel (bel_drewN _ U m)).lm.1.look id HID.out; simp only [HL.out, HSB.out, Option.map_some] at hq; exact hq
  go_quiet (fail)
  
  have bV := bel_drewN U.heap.size U nq
  obtain ⟨V, hV⟩ : ∃ q, U.drewN nq = q := ⟨_, rfl⟩
  rw [hV] at bV ⊢
  have HZV := Lib.hid (HZU.out.bel bV)
  have HAV := Lib.hid (HAU.out.bel bV)
  have HBV := Lib.hid (HBU.out.trans (bV.mono HBU.out.size))
  have HKV := Lib.hid (HKU.out.bel bV)
  clear bV hV
  have e1 : V.cell? ⟨gf, 1, none⟩ = some (.int .u64 (id : Int)) := HAV.out.at_ 1
  clear c0 c1 k1 g9 l0
  go_wp2_with fail
  go_quiet (fail)
  go_wp2_with fail
  go_ret
  exact ⟨rfl, HBV.out.trans ((bel_drewN _ V nq).mono HBV.out.size)⟩
set_option maxHeartbeats 4000000 in
theorem may_8_ft_lim (h : TZ w role g T Y) {id off : Nat} {fin : Bool} {da : SA} (hid : id < 18446744073709551616) (ho : (od id == T.srv) = false) (hw : wy id = true) (hm : (T.so (od id) true).may ≤ id / 4) :
    Calls Try.prog 24 #[ptr g, .agg (frc 8 id off 0 0 fin da SA0 SA0).toArray] w fun e w' => e = .returned (.int .u64 4) ∧ Below w.heap.size w w' := by
  obtain ⟨gf, hg⟩ : ∃ k, w.heap.size = k := ⟨_, rfl⟩
  have hA := CR.new w 37 (frc 8 id off 0 0 fin da SA0 SA0)
  have hb := below_alloc w (.cells (frc 8 id off 0 0 fin da SA0 SA0).toArray 37)
  unfold frc SA0 at hA hb
  unfold frc SA0
  obtain ⟨W1, hW1⟩ : ∃ x, w.alloc (.cells ([.int .u64 8, .int .u64 (id : Int), .int .u64 (off : Int), .int .u64 0, .int .u64 0, .bool fin, .slice da.a da.n da.c, .slice none 0 0, .slice none 0 0] : List Value).toArray 37) = x := ⟨_, rfl⟩
  rw [hW1, hg] at hA
  rw [hW1] at hb
  have HA := Lib.hid hA
  have HB := Lib.hid hb
  have HH := Lib.hid h
  have hof := fun (x : World) => of_any x id hid
  obtain ⟨sv, hsv⟩ : ∃ b, T.srv = b := ⟨_, rfl⟩
  obtain ⟨o1, ho1⟩ : ∃ b, od id = b := ⟨_, rfl⟩
  obtain ⟨o2, ho2⟩ : ∃ b, wy id = b := ⟨_, rfl⟩
  rw [ho1, ho2] at hof
  rw [ho1, hsv] at ho
  rw [ho2] at hw
  subst hw
  obtain ⟨may, hmay⟩ : ∃ n, (T.so o1 true).may = n := ⟨_, rfl⟩
  obtain ⟨so, hso⟩ : ∃ b, Y.so o1 true = b := ⟨_, rfl⟩
  rw [ho1, hmay] at hm
  have HF := Lib.hid (fun (u : World) (z : TZ u role g T Y) => (⟨z.row.cr.at_ 10, by have hq := z.sm.1.choose_spec.look o1 true; rw [hso] at hq; exact hq, by have hq := (z.so o1 true).cr.at_ 1; rw [hso, hmay] at hq; exact hq⟩ : u.cell? ⟨g, 10, none⟩ = some (.map (some Y.ms)) ∧ (Instr.lookup 57 (.map (some Y.ms)) (.agg #[.bool o1, .bool true]) false).run Try.prog u = .ok (.pointer (some ⟨so, 0, none⟩)) u ∧ u.cell? ⟨so, 1, none⟩ = some (.int .u64 (may : Int))))
  obtain ⟨q, hq⟩ : ∃ q, id / 4 = q := ⟨_, rfl⟩
  have hqi : (id : Int) / 4 = (q : Int) := by omega
  rw [hq] at hm
  have hd1 : decide ((may : Int) ≤ (q : Int)) = true := decide_eq_true (by omega)
  have hd2 : decide (may ≤ q) = true := decide_eq_true (by omega)
  clear hm hmay hso hq
  have HOF := Lib.hid hof
  have H1 := Lib.hid (h.bel hb)
  have HSV := Lib.hid hsv
  have hF1 : W1.cell? ⟨gf, 1, none⟩ = some (.int .u64 (id : Int)) := HA.out.at_ 1
  unfold ptr
  clear hA hb h hof ho1 ho2 hsv
  go_enter Try.func24, Try.ntmps24
  go_upto_region 2 with (first
    | (go_at_call 40; refine (HOF.out W1).mono ?_; rintro x w2 ⟨rfl, B2⟩
       have HA2 := Lib.hid (HA.out.bel B2)
       have HB2 := Lib.hid (HB.out.trans (B2.mono HB.out.size))
       have HZ2 := Lib.hid (H1.out.bel B2)
       clear B2
       obtain ⟨kk, hkk⟩ : ∃ q, w2.heap.size = q := ⟨_, rfl⟩
       have hrk := CR.new w2 66 [.bool false, .bool false]
       rw [hkk] at hrk
       have HRK := Lib.hid hrk
       have HKK := Lib.hid hkk
       clear hrk)
    | (refine L_storeRow (old := [.bool false, .bool false]) (new := [.bool o1, .bool true]) rfl 66 _ _ rfl rfl rfl HRK.out iKey rfl rfl (by simp [Value.oneCell']) ?_; intro w3 hz3 hg3; have HZK := Lib.hid hz3; have HG3 := Lib.hid hg3; clear hz3 hg3))
  have B3 : Below w2.heap.size w2 w3 := (below_alloc w2 (.cells [.bool false, .bool false].toArray 66)).grown HG3.out (by simp) (fun j hj => by cases hj; rw [HKK.out]; exact Nat.le_refl _)
  have HA3 := Lib.hid (HA2.out.bel B3)
  have HB3 := Lib.hid (HB2.out.trans (B3.mono HB2.out.size))
  have HZ3 := Lib.hid (HZ2.out.bel B3)
  clear B3 hkk hF1 hW1 hg
  have k0 : w3.cell? ⟨kk, 0, none⟩ = some (.bool o1) := HZK.out.at_ 0
  have g0 : w3.cell? ⟨g, 0, none⟩ = some (.bool sv) := by rw [← HSV.out]; exact HZ3.out.row.cr.at_ 0
  go_quiet (fail)
  clear k0 g0
  have bV := bel_drewN w3.heap.size w3 nq
  obtain ⟨U, hU⟩ : ∃ q, w3.drewN nq = q := ⟨_, rfl⟩
  rw [hU] at bV ⊢
  have HZU := Lib.hid (HZ3.out.bel bV)
  have HAU := Lib.hid (HA3.out.bel bV)
  have HBU := Lib.hid (HB3.out.trans (bV.mono HB3.out.size))
  have HKU := Lib.hid (HZK.out.bel bV)
  clear bV hU
  have c0 : U.cell? ⟨gf, 0, none⟩ = some (.int .u64 8) := HAU.out.at_ 0
  have c1 : U.cell? ⟨gf, 1, none⟩ = some (.int .u64 (id : Int)) := HAU.out.at_ 1
  have k1 : U.cell? ⟨kk, 1, none⟩ = some (.bool true) := HKU.out.at_ 1
  go_wp2_with fail
  go_quiet (fail)
  
  have bV := bel_drewN U.heap.size U nq
  obtain ⟨V, hV⟩ : ∃ q, U.drewN nq = q := ⟨_, rfl⟩
  rw [hV] at bV ⊢
  have HZV := Lib.hid (HZU.out.bel bV)
  have HAV := Lib.hid (HAU.out.bel bV)
  have HBV := Lib.hid (HBU.out.trans (bV.mono HBU.out.size))
  have HKV := Lib.hid (HKU.out.bel bV)
  clear bV hV
  have e1 : V.cell? ⟨gf, 1, none⟩ = some (.int .u64 (id : Int)) := HAV.out.at_ 1
  clear c0 c1 k1
  go_wp2_with fail
  have k0 : V.cell? ⟨kk, 0, none⟩ = some (.bool o1) := HKV.out.at_ 0
  have kr := HKV.out.rng
  have m10 := (HF.out _ HZV.out).1
  have s1 := (HF.out _ HZV.out).2.2
  have l0 : ∀ m, (Instr.lookup 57 (.map (some Y.ms)) (.agg #[.bool o1, .bool true]) false).run Try.prog (V.drewN m) = .ok (.pointer (some ⟨so, 0, none⟩)) (V.drewN m) := fun m => (HF.out _ (HZV.out.bel (bel_drewN _ V m))).2.1
  refine wp_region_quiet_lit (by kernel_rfl) (by kernel_rfl) ?_
  repeat (quiet_step (fail))
  refine wpQuiet_step (fun K hK => ?_)
  refine Q_loadG (by rfl) 66 _ rfl _ _ rfl [.bool o1, .bool true] _ (fun x hx => by obtain ⟨m, rfl⟩ := hx; exact (HKV.out.bel (bel_drewN _ V m)).rng) Try.underlying66 rfl iKey ?_
  refine hK _ ?_
  clear hK K
  try simp only [Act.put, List.setIfInBounds_toArray, List.set_cons_zero, List.set_cons_succ]
  repeat (quiet_step (fail))
  refine wpQuiet_nil ?_
  intro _ hw'
  obtain ⟨nq, hw2⟩ := hw'
  subst hw2
  clear k0 kr m10 s1 l0
  go_wp2_with fail
  go_ret
  exact ⟨rfl, HBV.out.trans ((bel_drewN _ V nq).mono HBV.out.size)⟩
set_option maxHeartbeats 4000000 in
theorem may_8_ft_ok (h : TZ w role g T Y) {id off : Nat} {fin : Bool} {da : SA} (hid : id < 18446744073709551616) (ho : (od id == T.srv) = false) (hw : wy id = true) (hm : id / 4 < (T.so (od id) true).may) :
    Calls Try.prog 24 #[ptr g, .agg (frc 8 id off 0 0 fin da SA0 SA0).toArray] w fun e w' => e = .returned (.int .u64 0) ∧ Below w.heap.size w w' := by
  obtain ⟨gf, hg⟩ : ∃ k, w.heap.size = k := ⟨_, rfl⟩
  have hA := CR.new w 37 (frc 8 id off 0 0 fin da SA0 SA0)
  have hb := below_alloc w (.cells (frc 8 id off 0 0 fin da SA0 SA0).toArray 37)
  unfold frc SA0 at hA hb
  unfold frc SA0
  obtain ⟨W1, hW1⟩ : ∃ x, w.alloc (.cells ([.int .u64 8, .int .u64 (id : Int), .int .u64 (off : Int), .int .u64 0, .int .u64 0, .bool fin, .slice da.a da.n da.c, .slice none 0 0, .slice none 0 0] : List Value).toArray 37) = x := ⟨_, rfl⟩
  rw [hW1, hg] at hA
  rw [hW1] at hb
  have HA := Lib.hid hA
  have HB := Lib.hid hb
  have HH := Lib.hid h
  have hof := fun (x : World) => of_any x id hid
  obtain ⟨sv, hsv⟩ : ∃ b, T.srv = b := ⟨_, rfl⟩
  obtain ⟨o1, ho1⟩ : ∃ b, od id = b := ⟨_, rfl⟩
  obtain ⟨o2, ho2⟩ : ∃ b, wy id = b := ⟨_, rfl⟩
  rw [ho1, ho2] at hof
  rw [ho1, hsv] at ho
  rw [ho2] at hw
  subst hw
  obtain ⟨may, hmay⟩ : ∃ n, (T.so o1 true).may = n := ⟨_, rfl⟩
  obtain ⟨so, hso⟩ : ∃ b, Y.so o1 true = b := ⟨_, rfl⟩
  rw [ho1, hmay] at hm
  have HF := Lib.hid (fun (u : World) (z : TZ u role g T Y) => (⟨z.row.cr.at_ 10, by have hq := z.sm.1.choose_spec.look o1 true; rw [hso] at hq; exact hq, by have hq := (z.so o1 true).cr.at_ 1; rw [hso, hmay] at hq; exact hq⟩ : u.cell? ⟨g, 10, none⟩ = some (.map (some Y.ms)) ∧ (Instr.lookup 57 (.map (some Y.ms)) (.agg #[.bool o1, .bool true]) false).run Try.prog u = .ok (.pointer (some ⟨so, 0, none⟩)) u ∧ u.cell? ⟨so, 1, none⟩ = some (.int .u64 (may : Int))))
  obtain ⟨q, hq⟩ : ∃ q, id / 4 = q := ⟨_, rfl⟩
  have hqi : (id : Int) / 4 = (q : Int) := by omega
  rw [hq] at hm
  have hd1 : decide ((may : Int) ≤ (q : Int)) = false := decide_eq_false (by omega)
  have hd2 : decide (may ≤ q) = false := decide_eq_false (by omega)
  clear hm hmay hso hq
  have HOF := Lib.hid hof
  have H1 := Lib.hid (h.bel hb)
  have HSV := Lib.hid hsv
  have hF1 : W1.cell? ⟨gf, 1, none⟩ = some (.int .u64 (id : Int)) := HA.out.at_ 1
  unfold ptr
  clear hA hb h hof ho1 ho2 hsv
  go_enter Try.func24, Try.ntmps24
  go_upto_region 2 with (first
    | (go_at_call 40; refine (HOF.out W1).mono ?_; rintro x w2 ⟨rfl, B2⟩
       have HA2 := Lib.hid (HA.out.bel B2)
       have HB2 := Lib.hid (HB.out.trans (B2.mono HB.out.size))
       have HZ2 := Lib.hid (H1.out.bel B2)
       clear B2
       obtain ⟨kk, hkk⟩ : ∃ q, w2.heap.size = q := ⟨_, rfl⟩
       have hrk := CR.new w2 66 [.bool false, .bool false]
       rw [hkk] at hrk
       have HRK := Lib.hid hrk
       have HKK := Lib.hid hkk
       clear hrk)
    | (refine L_storeRow (old := [.bool false, .bool false]) (new := [.bool o1, .bool true]) rfl 66 _ _ rfl rfl rfl HRK.out iKey rfl rfl (by simp [Value.oneCell']) ?_; intro w3 hz3 hg3; have HZK := Lib.hid hz3; have HG3 := Lib.hid hg3; clear hz3 hg3))
  have B3 : Below w2.heap.size w2 w3 := (below_alloc w2 (.cells [.bool false, .bool false].toArray 66)).grown HG3.out (by simp) (fun j hj => by cases hj; rw [HKK.out]; exact Nat.le_refl _)
  have HA3 := Lib.hid (HA2.out.bel B3)
  have HB3 := Lib.hid (HB2.out.trans (B3.mono HB2.out.size))
  have HZ3 := Lib.hid (HZ2.out.bel B3)
  clear B3 hkk hF1 hW1 hg
  have k0 : w3.cell? ⟨kk, 0, none⟩ = some (.bool o1) := HZK.out.at_ 0
  have g0 : w3.cell? ⟨g, 0, none⟩ = some (.bool sv) := by rw [← HSV.out]; exact HZ3.out.row.cr.at_ 0
  go_quiet (fail)
  clear k0 g0
  have bV := bel_drewN w3.heap.size w3 nq
  obtain ⟨U, hU⟩ : ∃ q, w3.drewN nq = q := ⟨_, rfl⟩
  rw [hU] at bV ⊢
  have HZU := Lib.hid (HZ3.out.bel bV)
  have HAU := Lib.hid (HA3.out.bel bV)
  have HBU := Lib.hid (HB3.out.trans (bV.mono HB3.out.size))
  have HKU := Lib.hid (HZK.out.bel bV)
  clear bV hU
  have c0 : U.cell? ⟨gf, 0, none⟩ = some (.int .u64 8) := HAU.out.at_ 0
  have c1 : U.cell? ⟨gf, 1, none⟩ = some (.int .u64 (id : Int)) := HAU.out.at_ 1
  have k1 : U.cell? ⟨kk, 1, none⟩ = some (.bool true) := HKU.out.at_ 1
  go_wp2_with fail
  go_quiet (fail)
  
  have bV := bel_drewN U.heap.size U nq
  obtain ⟨V, hV⟩ : ∃ q, U.drewN nq = q := ⟨_, rfl⟩
  rw [hV] at bV ⊢
  have HZV := Lib.hid (HZU.out.bel bV)
  have HAV := Lib.hid (HAU.out.bel bV)
  have HBV := Lib.hid (HBU.out.trans (bV.mono HBU.out.size))
  have HKV := Lib.hid (HKU.out.bel bV)
  clear bV hV
  have e1 : V.cell? ⟨gf, 1, none⟩ = some (.int .u64 (id : Int)) := HAV.out.at_ 1
  clear c0 c1 k1
  go_wp2_with fail
  have k0 : V.cell? ⟨kk, 0, none⟩ = some (.bool o1) := HKV.out.at_ 0
  have kr := HKV.out.rng
  have m10 := (HF.out _ HZV.out).1
  have s1 := (HF.out _ HZV.out).2.2
  have l0 : ∀ m, (Instr.lookup 57 (.map (some Y.ms)) (.agg #[.bool o1, .bool true]) false).run Try.prog (V.drewN m) = .ok (.pointer (some ⟨so, 0, none⟩)) (V.drewN m) := fun m => (HF.out _ (HZV.out.bel (bel_drewN _ V m))).2.1
  refine wp_region_quiet_lit (by kernel_rfl) (by kernel_rfl) ?_
  repeat (quiet_step (fail))
  refine wpQuiet_step (fun K hK => ?_)
  refine Q_loadG (by rfl) 66 _ rfl _ _ rfl [.bool o1, .bool true] _ (fun x hx => by obtain ⟨m, rfl⟩ := hx; exact (HKV.out.bel (bel_drewN _ V m)).rng) Try.underlying66 rfl iKey ?_
  refine hK _ ?_
  clear hK K
  try simp only [Act.put, List.setIfInBounds_toArray, List.set_cons_zero, List.set_cons_succ]
  repeat (quiet_step (fail))
  refine wpQuiet_nil ?_
  intro _ hw'
  obtain ⟨nq, hw2⟩ := hw'
  subst hw2
  clear k0 kr m10 s1 l0
  go_wp2_with fail
  go_ret
  exact ⟨rfl, HBV.out.trans ((bel_drewN _ V nq).mono HBV.out.size)⟩
set_option maxHeartbeats 4000000 in
theorem may_8_ff_lim (h : TZ w role g T Y) {id off : Nat} {fin : Bool} {da : SA} (hid : id < 18446744073709551616) (ho : (od id == T.srv) = false) (hw : wy id = false) (hm : (T.so (od id) false).may ≤ id / 4) :
    Calls Try.prog 24 #[ptr g, .agg (frc 8 id off 0 0 fin da SA0 SA0).toArray] w fun e w' => e = .returned (.int .u64 4) ∧ Below w.heap.size w w' := by
  obtain ⟨gf, hg⟩ : ∃ k, w.heap.size = k := ⟨_, rfl⟩
  have hA := CR.new w 37 (frc 8 id off 0 0 fin da SA0 SA0)
  have hb := below_alloc w (.cells (frc 8 id off 0 0 fin da SA0 SA0).toArray 37)
  unfold frc SA0 at hA hb
  unfold frc SA0
  obtain ⟨W1, hW1⟩ : ∃ x, w.alloc (.cells ([.int .u64 8, .int .u64 (id : Int), .int .u64 (off : Int), .int .u64 0, .int .u64 0, .bool fin, .slice da.a da.n da.c, .slice none 0 0, .slice none 0 0] : List Value).toArray 37) = x := ⟨_, rfl⟩
  rw [hW1, hg] at hA
  rw [hW1] at hb
  have HA := Lib.hid hA
  have HB := Lib.hid hb
  have HH := Lib.hid h
  have hof := fun (x : World) => of_any x id hid
  obtain ⟨sv, hsv⟩ : ∃ b, T.srv = b := ⟨_, rfl⟩
  obtain ⟨o1, ho1⟩ : ∃ b, od id = b := ⟨_, rfl⟩
  obtain ⟨o2, ho2⟩ : ∃ b, wy id = b := ⟨_, rfl⟩
  rw [ho1, ho2] at hof
  rw [ho1, hsv] at ho
  rw [ho2] at hw
  subst hw
  obtain ⟨may, hmay⟩ : ∃ n, (T.so o1 false).may = n := ⟨_, rfl⟩
  obtain ⟨so, hso⟩ : ∃ b, Y.so o1 false = b := ⟨_, rfl⟩
  rw [ho1, hmay] at hm
  have HF := Lib.hid (fun (u : World) (z : TZ u role g T Y) => (⟨z.row.cr.at_ 10, by have hq := z.sm.1.choose_spec.look o1 false; rw [hso] at hq; exact hq, by have hq := (z.so o1 false).cr.at_ 1; rw [hso, hmay] at hq; exact hq⟩ : u.cell? ⟨g, 10, none⟩ = some (.map (some Y.ms)) ∧ (Instr.lookup 57 (.map (some Y.ms)) (.agg #[.bool o1, .bool false]) false).run Try.prog u = .ok (.pointer (some ⟨so, 0, none⟩)) u ∧ u.cell? ⟨so, 1, none⟩ = some (.int .u64 (may : Int))))
  obtain ⟨q, hq⟩ : ∃ q, id / 4 = q := ⟨_, rfl⟩
  have hqi : (id : Int) / 4 = (q : Int) := by omega
  rw [hq] at hm
  have hd1 : decide ((may : Int) ≤ (q : Int)) = true := decide_eq_true (by omega)
  have hd2 : decide (may ≤ q) = true := decide_eq_true (by omega)
  clear hm hmay hso hq
  have HOF := Lib.hid hof
  have H1 := Lib.hid (h.bel hb)
  have HSV := Lib.hid hsv
  have hF1 : W1.cell? ⟨gf, 1, none⟩ = some (.int .u64 (id : Int)) := HA.out.at_ 1
  unfold ptr
  clear hA hb h hof ho1 ho2 hsv
  go_enter Try.func24, Try.ntmps24
  go_upto_region 2 with (first
    | (go_at_call 40; refine (HOF.out W1).mono ?_; rintro x w2 ⟨rfl, B2⟩
       have HA2 := Lib.hid (HA.out.bel B2)
       have HB2 := Lib.hid (HB.out.trans (B2.mono HB.out.size))
       have HZ2 := Lib.hid (H1.out.bel B2)
       clear B2
       obtain ⟨kk, hkk⟩ : ∃ q, w2.heap.size = q := ⟨_, rfl⟩
       have hrk := CR.new w2 66 [.bool false, .bool false]
       rw [hkk] at hrk
       have HRK := Lib.hid hrk
       have HKK := Lib.hid hkk
       clear hrk)
    | (refine L_storeRow (old := [.bool false, .bool false]) (new := [.bool o1, .bool false]) rfl 66 _ _ rfl rfl rfl HRK.out iKey rfl rfl (by simp [Value.oneCell']) ?_; intro w3 hz3 hg3; have HZK := Lib.hid hz3; have HG3 := Lib.hid hg3; clear hz3 hg3))
  have B3 : Below w2.heap.size w2 w3 := (below_alloc w2 (.cells [.bool false, .bool false].toArray 66)).grown HG3.out (by simp) (fun j hj => by cases hj; rw [HKK.out]; exact Nat.le_refl _)
  have HA3 := Lib.hid (HA2.out.bel B3)
  have HB3 := Lib.hid (HB2.out.trans (B3.mono HB2.out.size))
  have HZ3 := Lib.hid (HZ2.out.bel B3)
  clear B3 hkk hF1 hW1 hg
  have k0 : w3.cell? ⟨kk, 0, none⟩ = some (.bool o1) := HZK.out.at_ 0
  have g0 : w3.cell? ⟨g, 0, none⟩ = some (.bool sv) := by rw [← HSV.out]; exact HZ3.out.row.cr.at_ 0
  go_quiet (fail)
  clear k0 g0
  have bV := bel_drewN w3.heap.size w3 nq
  obtain ⟨U, hU⟩ : ∃ q, w3.drewN nq = q := ⟨_, rfl⟩
  rw [hU] at bV ⊢
  have HZU := Lib.hid (HZ3.out.bel bV)
  have HAU := Lib.hid (HA3.out.bel bV)
  have HBU := Lib.hid (HB3.out.trans (bV.mono HB3.out.size))
  have HKU := Lib.hid (HZK.out.bel bV)
  clear bV hU
  have c0 : U.cell? ⟨gf, 0, none⟩ = some (.int .u64 8) := HAU.out.at_ 0
  have c1 : U.cell? ⟨gf, 1, none⟩ = some (.int .u64 (id : Int)) := HAU.out.at_ 1
  have k1 : U.cell? ⟨kk, 1, none⟩ = some (.bool false) := HKU.out.at_ 1
  go_wp2_with fail
  go_quiet (fail)
  
  have bV := bel_drewN U.heap.size U nq
  obtain ⟨V, hV⟩ : ∃ q, U.drewN nq = q := ⟨_, rfl⟩
  rw [hV] at bV ⊢
  have HZV := Lib.hid (HZU.out.bel bV)
  have HAV := Lib.hid (HAU.out.bel bV)
  have HBV := Lib.hid (HBU.out.trans (bV.mono HBU.out.size))
  have HKV := Lib.hid (HKU.out.bel bV)
  clear bV hV
  have e1 : V.cell? ⟨gf, 1, none⟩ = some (.int .u64 (id : Int)) := HAV.out.at_ 1
  clear c0 c1 k1
  go_wp2_with fail
  have k0 : V.cell? ⟨kk, 0, none⟩ = some (.bool o1) := HKV.out.at_ 0
  have kr := HKV.out.rng
  have m10 := (HF.out _ HZV.out).1
  have s1 := (HF.out _ HZV.out).2.2
  have l0 : ∀ m, (Instr.lookup 57 (.map (some Y.ms)) (.agg #[.bool o1, .bool false]) false).run Try.prog (V.drewN m) = .ok (.pointer (some ⟨so, 0, none⟩)) (V.drewN m) := fun m => (HF.out _ (HZV.out.bel (bel_drewN _ V m))).2.1
  refine wp_region_quiet_lit (by kernel_rfl) (by kernel_rfl) ?_
  repeat (quiet_step (fail))
  refine wpQuiet_step (fun K hK => ?_)
  refine Q_loadG (by rfl) 66 _ rfl _ _ rfl [.bool o1, .bool false] _ (fun x hx => by obtain ⟨m, rfl⟩ := hx; exact (HKV.out.bel (bel_drewN _ V m)).rng) Try.underlying66 rfl iKey ?_
  refine hK _ ?_
  clear hK K
  try simp only [Act.put, List.setIfInBounds_toArray, List.set_cons_zero, List.set_cons_succ]
  repeat (quiet_step (fail))
  refine wpQuiet_nil ?_
  intro _ hw'
  obtain ⟨nq, hw2⟩ := hw'
  subst hw2
  clear k0 kr m10 s1 l0
  go_wp2_with fail
  go_ret
  exact ⟨rfl, HBV.out.trans ((bel_drewN _ V nq).mono HBV.out.size)⟩
set_option maxHeartbeats 4000000 in
theorem may_8_ff_ok (h : TZ w role g T Y) {id off : Nat} {fin : Bool} {da : SA} (hid : id < 18446744073709551616) (ho : (od id == T.srv) = false) (hw : wy id = false) (hm : id / 4 < (T.so (od id) false).may) :
    Calls Try.prog 24 #[ptr g, .agg (frc 8 id off 0 0 fin da SA0 SA0).toArray] w fun e w' => e = .returned (.int .u64 0) ∧ Below w.heap.size w w' := by
  obtain ⟨gf, hg⟩ : ∃ k, w.heap.size = k := ⟨_, rfl⟩
  have hA := CR.new w 37 (frc 8 id off 0 0 fin da SA0 SA0)
  have hb := below_alloc w (.cells (frc 8 id off 0 0 fin da SA0 SA0).toArray 37)
  unfold frc SA0 at hA hb
  unfold frc SA0
  obtain ⟨W1, hW1⟩ : ∃ x, w.alloc (.cells ([.int .u64 8, .int .u64 (id : Int), .int .u64 (off : Int), .int .u64 0, .int .u64 0, .bool fin, .slice da.a da.n da.c, .slice none 0 0, .slice none 0 0] : List Value).toArray 37) = x := ⟨_, rfl⟩
  rw [hW1, hg] at hA
  rw [hW1] at hb
  have HA := Lib.hid hA
  have HB := Lib.hid hb
  have HH := Lib.hid h
  have hof := fun (x : World) => of_any x id hid
  obtain ⟨sv, hsv⟩ : ∃ b, T.srv = b := ⟨_, rfl⟩
  obtain ⟨o1, ho1⟩ : ∃ b, od id = b := ⟨_, rfl⟩
  obtain ⟨o2, ho2⟩ : ∃ b, wy id = b := ⟨_, rfl⟩
  rw [ho1, ho2] at hof
  rw [ho1, hsv] at ho
  rw [ho2] at hw
  subst hw
  obtain ⟨may, hmay⟩ : ∃ n, (T.so o1 false).may = n := ⟨_, rfl⟩
  obtain ⟨so, hso⟩ : ∃ b, Y.so o1 false = b := ⟨_, rfl⟩
  rw [ho1, hmay] at hm
  have HF := Lib.hid (fun (u : World) (z : TZ u role g T Y) => (⟨z.row.cr.at_ 10, by have hq := z.sm.1.choose_spec.look o1 false; rw [hso] at hq; exact hq, by have hq := (z.so o1 false).cr.at_ 1; rw [hso, hmay] at hq; exact hq⟩ : u.cell? ⟨g, 10, none⟩ = some (.map (some Y.ms)) ∧ (Instr.lookup 57 (.map (some Y.ms)) (.agg #[.bool o1, .bool false]) false).run Try.prog u = .ok (.pointer (some ⟨so, 0, none⟩)) u ∧ u.cell? ⟨so, 1, none⟩ = some (.int .u64 (may : Int))))
  obtain ⟨q, hq⟩ : ∃ q, id / 4 = q := ⟨_, rfl⟩
  have hqi : (id : Int) / 4 = (q : Int) := by omega
  rw [hq] at hm
  have hd1 : decide ((may : Int) ≤ (q : Int)) = false := decide_eq_false (by omega)
  have hd2 : decide (may ≤ q) = false := decide_eq_false (by omega)
  clear hm hmay hso hq
  have HOF := Lib.hid hof
  have H1 := Lib.hid (h.bel hb)
  have HSV := Lib.hid hsv
  have hF1 : W1.cell? ⟨gf, 1, none⟩ = some (.int .u64 (id : Int)) := HA.out.at_ 1
  unfold ptr
  clear hA hb h hof ho1 ho2 hsv
  go_enter Try.func24, Try.ntmps24
  go_upto_region 2 with (first
    | (go_at_call 40; refine (HOF.out W1).mono ?_; rintro x w2 ⟨rfl, B2⟩
       have HA2 := Lib.hid (HA.out.bel B2)
       have HB2 := Lib.hid (HB.out.trans (B2.mono HB.out.size))
       have HZ2 := Lib.hid (H1.out.bel B2)
       clear B2
       obtain ⟨kk, hkk⟩ : ∃ q, w2.heap.size = q := ⟨_, rfl⟩
       have hrk := CR.new w2 66 [.bool false, .bool false]
       rw [hkk] at hrk
       have HRK := Lib.hid hrk
       have HKK := Lib.hid hkk
       clear hrk)
    | (refine L_storeRow (old := [.bool false, .bool false]) (new := [.bool o1, .bool false]) rfl 66 _ _ rfl rfl rfl HRK.out iKey rfl rfl (by simp [Value.oneCell']) ?_; intro w3 hz3 hg3; have HZK := Lib.hid hz3; have HG3 := Lib.hid hg3; clear hz3 hg3))
  have B3 : Below w2.heap.size w2 w3 := (below_alloc w2 (.cells [.bool false, .bool false].toArray 66)).grown HG3.out (by simp) (fun j hj => by cases hj; rw [HKK.out]; exact Nat.le_refl _)
  have HA3 := Lib.hid (HA2.out.bel B3)
  have HB3 := Lib.hid (HB2.out.trans (B3.mono HB2.out.size))
  have HZ3 := Lib.hid (HZ2.out.bel B3)
  clear B3 hkk hF1 hW1 hg
  have k0 : w3.cell? ⟨kk, 0, none⟩ = some (.bool o1) := HZK.out.at_ 0
  have g0 : w3.cell? ⟨g, 0, none⟩ = some (.bool sv) := by rw [← HSV.out]; exact HZ3.out.row.cr.at_ 0
  go_quiet (fail)
  clear k0 g0
  have bV := bel_drewN w3.heap.size w3 nq
  obtain ⟨U, hU⟩ : ∃ q, w3.drewN nq = q := ⟨_, rfl⟩
  rw [hU] at bV ⊢
  have HZU := Lib.hid (HZ3.out.bel bV)
  have HAU := Lib.hid (HA3.out.bel bV)
  have HBU := Lib.hid (HB3.out.trans (bV.mono HB3.out.size))
  have HKU := Lib.hid (HZK.out.bel bV)
  clear bV hU
  have c0 : U.cell? ⟨gf, 0, none⟩ = some (.int .u64 8) := HAU.out.at_ 0
  have c1 : U.cell? ⟨gf, 1, none⟩ = some (.int .u64 (id : Int)) := HAU.out.at_ 1
  have k1 : U.cell? ⟨kk, 1, none⟩ = some (.bool false) := HKU.out.at_ 1
  go_wp2_with fail
  go_quiet (fail)
  
  have bV := bel_drewN U.heap.size U nq
  obtain ⟨V, hV⟩ : ∃ q, U.drewN nq = q := ⟨_, rfl⟩
  rw [hV] at bV ⊢
  have HZV := Lib.hid (HZU.out.bel bV)
  have HAV := Lib.hid (HAU.out.bel bV)
  have HBV := Lib.hid (HBU.out.trans (bV.mono HBU.out.size))
  have HKV := Lib.hid (HKU.out.bel bV)
  clear bV hV
  have e1 : V.cell? ⟨gf, 1, none⟩ = some (.int .u64 (id : Int)) := HAV.out.at_ 1
  clear c0 c1 k1
  go_wp2_with fail
  have k0 : V.cell? ⟨kk, 0, none⟩ = some (.bool o1) := HKV.out.at_ 0
  have kr := HKV.out.rng
  have m10 := (HF.out _ HZV.out).1
  have s1 := (HF.out _ HZV.out).2.2
  have l0 : ∀ m, (Instr.lookup 57 (.map (some Y.ms)) (.agg #[.bool o1, .bool false]) false).run Try.prog (V.drewN m) = .ok (.pointer (some ⟨so, 0, none⟩)) (V.drewN m) := fun m => (HF.out _ (HZV.out.bel (bel_drewN _ V m))).2.1
  refine wp_region_quiet_lit (by kernel_rfl) (by kernel_rfl) ?_
  repeat (quiet_step (fail))
  refine wpQuiet_step (fun K hK => ?_)
  refine Q_loadG (by rfl) 66 _ rfl _ _ rfl [.bool o1, .bool false] _ (fun x hx => by obtain ⟨m, rfl⟩ := hx; exact (HKV.out.bel (bel_drewN _ V m)).rng) Try.underlying66 rfl iKey ?_
  refine hK _ ?_
  clear hK K
  try simp only [Act.put, List.setIfInBounds_toArray, List.set_cons_zero, List.set_cons_succ]
  repeat (quiet_step (fail))
  refine wpQuiet_nil ?_
  intro _ hw'
  obtain ⟨nq, hw2⟩ := hw'
  subst hw2
  clear k0 kr m10 s1 l0
  go_wp2_with fail
  go_ret
  exact ⟨rfl, HBV.out.trans ((bel_drewN _ V nq).mono HBV.out.size)⟩
end
end Go.Proofs.Yteekafpkbdbadaa.Pi
