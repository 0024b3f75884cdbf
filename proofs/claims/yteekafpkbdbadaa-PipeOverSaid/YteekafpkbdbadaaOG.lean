/- pipe: Open. -/
import Derived.Test.YteekafpkbdbadaaOF
set_option maxRecDepth 100000
set_option linter.unusedVariables false
namespace Go.Proofs.Yteekafpkbdbadaa.Pi
open Go.RowKit
theorem rso_inj {a b c d : Bool} (h : rso a b = rso c d) : a = c ∧ b = d := by
  cases a <;> cases b <;> cases c <;> cases d <;> simp_all [rso]
theorem rso_bd (a b : Bool) : 3 < rso a b ∧ rso a b < 8 := by cases a <;> cases b <;> decide
/-- a sort turns -/
def setSo (T : TaS) (a b : Bool) (s : SoS) : TaS := { T with so := fun x y => if x = a ∧ y = b then s else T.so x y }
section
variable {w w' : World} {role : Nat → Nat} {g : Nat} {T : TaS} {Y : TaY}
theorem TZ.setSo (h : TZ w role g T Y) (a b : Bool) {s : SoS} (hg : w.grownBy w' (some (Y.so a b))) (hc : CR w' (Y.so a b) 70 [u64 s.known, u64 s.may, .int .i64 (s.news : Int)]) : TZ w' role g (setSo T a b s) Y ∧ Stq (fun r => r ≠ 0) w w' role role := by
  have hr := (h.so a b).rb
  have st : Stq (fun r => r = rso a b) w w' role role := Stq.grown hg hr h.top
  have hb := rso_bd a b
  have k := st.kq
  refine ⟨⟨h.row.stq k (by omega), h.lm.1.stq h.lm.2 k (by omega), ⟨⟨h.sm.1.choose, (h.sm.1.choose_spec.stq h.sm.2 k (by omega)).1⟩, h.sm.2⟩, fun x y => ?_, cr_stq h.pu.1 h.pu.2 k (by omega), cr_stq h.ti.1 h.ti.2 k (by omega), h.ca.stq k (by omega), fun id x hx => (h.st id x hx).stq k (fun j _ => by unfold rid; omega), h.ids, st.top⟩, st.mono (fun r hr => by omega)⟩
  by_cases hxy : x = a ∧ y = b
  · obtain ⟨rfl, rfl⟩ := hxy
    unfold Pi.setSo
    simp only [and_self, if_true]
    exact ⟨hc, hr⟩
  · have := (h.so x y).stq k (fun he => hxy (rso_inj he))
    unfold Pi.setSo
    simp only [hxy, if_false]
    exact this
theorem TZ.setSoC (h : TZ w role g T Y) (a b : Bool) (i : Nat) (v : Value) {s : SoS} (hr : [u64 (T.so a b).known, u64 (T.so a b).may, .int .i64 ((T.so a b).news : Int)].set i v = [u64 s.known, u64 s.may, .int .i64 (s.news : Int)]) : TZ (w.setCell ⟨Y.so a b, i, none⟩ v) role g (Pi.setSo T a b s) Y ∧ Stq (fun r => r ≠ 0) w (w.setCell ⟨Y.so a b, i, none⟩ v) role role :=
  h.setSo a b (grown_set _ _ _ _) (by rw [← hr]; exact (h.so a b).cr.set i v)
/-- the ID of a side's next stream -/
def nextId (T : TaS) (uni : Bool) : Nat := (T.so T.srv uni).known * 4 + (if T.srv then 1 else 0) + (if uni then 2 else 0)
def openS (T : TaS) (uni : Bool) : TaS := makeS (Pi.setSo T T.srv uni { T.so T.srv uni with known := (T.so T.srv uni).known + 1 }) (nextId T uni)
theorem or_1 (n : Nat) (h : n < 1152921504606846976) : bits .or .u64 ((n * 4 : Nat) : Int) 1 = ((n * 4 + 1 : Nat) : Int) := by
  have h1 := u64_or_nat (n * 4) 1 (by omega) (by omega)
  have h2 := Nat.shiftLeft_add_eq_or_of_lt (b := 1) (i := 2) (by omega) n
  rw [Nat.shiftLeft_eq] at h2
  rw [show n * 4 ||| 1 = n * 4 + 1 by rw [show (4 : Nat) = 2 ^ 2 from rfl, ← h2]] at h1
  exact h1
theorem or_2 (n : Nat) (h : n < 1152921504606846976) : bits .or .u64 ((n * 4 : Nat) : Int) 2 = ((n * 4 + 2 : Nat) : Int) := by
  have h1 := u64_or_nat (n * 4) 2 (by omega) (by omega)
  have h2 := Nat.shiftLeft_add_eq_or_of_lt (b := 2) (i := 2) (by omega) n
  rw [Nat.shiftLeft_eq] at h2
  rw [show n * 4 ||| 2 = n * 4 + 2 by rw [show (4 : Nat) = 2 ^ 2 from rfl, ← h2]] at h1
  exact h1
theorem or_3 (n : Nat) (h : n < 1152921504606846976) : bits .or .u64 ((n * 4 + 1 : Nat) : Int) 2 = ((n * 4 + 3 : Nat) : Int) := by
  have h1 := u64_or_nat (n * 4 + 1) 2 (by omega) (by omega)
  have h2 := Nat.shiftLeft_add_eq_or_of_lt (b := 1) (i := 2) (by omega) n
  have h3 := Nat.shiftLeft_add_eq_or_of_lt (b := 3) (i := 2) (by omega) n
  rw [Nat.shiftLeft_eq] at h2 h3
  rw [show n * 4 + 1 ||| 2 = n * 4 + 3 by rw [show n * 4 + 1 = n * 2 ^ 2 ||| 1 from h2, Nat.or_assoc, show n * 4 + 3 = n * 2 ^ 2 ||| 3 from h3]; rfl] at h1
  exact h1
set_option maxHeartbeats 4000000 in
theorem open_true_true (h : TZ w role g T Y) (hsv : T.srv = true) (hY : Y.n < maxLen) (hk : (T.so true true).known < 1152921504606846976) (hlt : (T.so true true).known < (T.so true true).may) (hn : T.l ((T.so true true).known * 4 + 3) = none) :
    Calls Try.prog 10 #[ptr g, .bool true] w fun e w' => e = .returned (.tuple #[.int .u64 (((T.so true true).known * 4 + 3 : Nat) : Int), .int .i64 0]) ∧ ∃ role' Y', TZ w' role' g (makeS (Pi.setSo T true true { T.so true true with known := (T.so true true).known + 1 }) ((T.so true true).known * 4 + 3)) Y' ∧ Y'.n = Y.n + 1 ∧ Stq (fun r => r ≠ 0) w w' role role' := by
  obtain ⟨n, hn0⟩ : ∃ n, (T.so true true).known = n := ⟨_, rfl⟩
  obtain ⟨may, hmay⟩ : ∃ n, (T.so true true).may = n := ⟨_, rfl⟩
  obtain ⟨so, hso⟩ : ∃ b, Y.so true true = b := ⟨_, rfl⟩
  rw [hn0] at hk hlt hn ⊢
  rw [hmay] at hlt
  have o1 := or_1 n hk
  have o2 := or_2 n hk
  have o3 := or_3 n hk
  obtain ⟨X, hX⟩ : ∃ X, n * 4 = X := ⟨_, rfl⟩
  rw [hX] at o1 o2 o3 hn ⊢
  obtain ⟨X1, hX1⟩ : ∃ X1, X + 1 = X1 := ⟨_, rfl⟩
  obtain ⟨X2, hX2⟩ : ∃ X2, X + 2 = X2 := ⟨_, rfl⟩
  obtain ⟨X3, hX3⟩ : ∃ X3, X + 3 = X3 := ⟨_, rfl⟩
  rw [hX3] at hn ⊢
  try rw [hX1] at o1 o3
  try rw [hX2] at o2
  try rw [hX3] at o3
  have hxi : (n : Int) * 4 = (X : Int) := by omega
  have hxw : IntKind.u64.wrap (X : Int) = (X : Int) := IntWalk.u64_in _ (by omega)
  have hnw : IntKind.u64.wrap ((n : Int) + 1) = (n : Int) + 1 := IntWalk.u64_in _ (by omega)
  have q : decide ((may : Int) ≤ (n : Int)) = false := decide_eq_false (by omega)
  have q' : decide (may ≤ n) = false := decide_eq_false (by omega)
  have HG := Lib.hid (fun (x : World) (hz : TZ x role g T Y) => (⟨by have := hz.row.cr.at_ 0; rw [hsv] at this; exact this, hz.row.cr.at_ 10, by have := (hz.so true true).cr.at_ 0; rw [hso, hn0] at this; exact this, by have := (hz.so true true).cr.at_ 1; rw [hso, hmay] at this; exact this, by have := (hz.so true true).cr.fr 0; rw [hso] at this; exact this⟩ : x.cell? ⟨g, 0, none⟩ = some (.bool true) ∧ x.cell? ⟨g, 10, none⟩ = some (.map (some Y.ms)) ∧ x.cell? ⟨so, 0, none⟩ = some (.int .u64 (n : Int)) ∧ x.cell? ⟨so, 1, none⟩ = some (.int .u64 (may : Int)) ∧ x.frozen? ⟨so, 0, none⟩ = false))
  have HL := Lib.hid (fun (x : World) (hz : TZ x role g T Y) => by have hq := hz.sm.1.choose_spec.look true true; rw [hso] at hq; exact hq)
  have H := Lib.hid h
  have HS := Lib.hid (fun (x : World) (hz : TZ x role g T Y) => by have hq := hz.setSoC true true 0 (u64 (n + 1)) (s := { T.so true true with known := n + 1 }) rfl; rw [hso] at hq; exact hq)
  have HN := Lib.hid (show (Pi.setSo T true true { T.so true true with known := n + 1 }).l _ = none from hn)
  have HY := Lib.hid hY
  have HX := Lib.hid (show X3 < 18446744073709551616 by omega)
  have HX12 := Lib.hid (show X1 = X + 1 ∧ X2 = X + 2 ∧ X3 = X + 3 by omega)
  have l0 : ∀ m, (Instr.lookup 57 (.map (some Y.ms)) (.agg #[.bool true, .bool true]) false).run Try.prog (w.drewN m) = .ok (.pointer (some ⟨so, 0, none⟩)) (w.drewN m) := fun m => HL.out _ (h.bel (bel_drewN _ w m))
  have g0 := (HG.out w h).1
  have g10 := (HG.out w h).2.1
  have s0 := (HG.out w h).2.2.1
  have s1 := (HG.out w h).2.2.2.1
  clear h hsv hk hlt hn hY hn0 hmay hso hX hX1 hX2 hX3
  unfold ptr
  go_enter Try.func10, Try.ntmps10
  go_wp2_with fail
  go_quiet (fail)
  clear g0 g10 s0 s1 l0
  have bV := bel_drewN w.heap.size w nq
  obtain ⟨V, hV⟩ : ∃ q, w.drewN nq = q := ⟨_, rfl⟩
  rw [hV] at bV ⊢
  have BV := Lib.hid bV
  have HV := Lib.hid (H.out.bel bV)
  clear hV bV
  have s0 : V.cell? ⟨so, 0, none⟩ = some (.int .u64 (n : Int)) := (HG.out V HV.out).2.2.1
  have s1 : V.cell? ⟨so, 1, none⟩ = some (.int .u64 (may : Int)) := (HG.out V HV.out).2.2.2.1
  go_wp2_with fail
  go_quiet (fail)
  clear s0 s1
  have bV := bel_drewN V.heap.size V nq
  obtain ⟨U, hV⟩ : ∃ q, V.drewN nq = q := ⟨_, rfl⟩
  rw [hV] at bV ⊢
  have BU := Lib.hid bV
  have HU := Lib.hid (HV.out.bel bV)
  clear hV bV
  have s0 : U.cell? ⟨so, 0, none⟩ = some (.int .u64 (n : Int)) := (HG.out U HU.out).2.2.1
  have f0 := (HG.out U HU.out).2.2.2.2
  have g0 : U.cell? ⟨g, 0, none⟩ = some (.bool true) := (HG.out U HU.out).1
  have hs := HS.out U HU.out
  unfold u64 at hs
  have hwc : U.setCell ⟨so, 0, none⟩ (.int .u64 ((n : Int) + 1)) = U.setCell ⟨so, 0, none⟩ (.int .u64 ((n + 1 : Nat) : Int)) := by congr 2
  rw [← hwc] at hs
  obtain ⟨W2, hW2⟩ : ∃ q, U.setCell ⟨so, 0, none⟩ (.int .u64 ((n : Int) + 1)) = q := ⟨_, rfl⟩
  rw [hW2] at hs
  have HS2 := Lib.hid hs
  have HMK := Lib.hid (make_any (id := X3) hs.1 (by have := HX12.out; have := HX.out; omega) HN.out HY.out)
  unfold ptr at HMK
  clear hs hwc
  go_wp2_with (go_at_call 22; refine HMK.out.mono ?_; rintro y w5 ⟨role5, sb, rfl, z5, t5⟩)
  go_ret2
  refine ⟨rfl, role5, _, z5, rfl, ?_⟩
  exact (((Stq.bel BV.out H.out.top).trans (Stq.bel BU.out HV.out.top)).trans HS2.out.2).trans t5
set_option maxHeartbeats 4000000 in
theorem open_true_false (h : TZ w role g T Y) (hsv : T.srv = true) (hY : Y.n < maxLen) (hk : (T.so true false).known < 1152921504606846976) (hlt : (T.so true false).known < (T.so true false).may) (hn : T.l ((T.so true false).known * 4 + 1) = none) :
    Calls Try.prog 10 #[ptr g, .bool false] w fun e w' => e = .returned (.tuple #[.int .u64 (((T.so true false).known * 4 + 1 : Nat) : Int), .int .i64 0]) ∧ ∃ role' Y', TZ w' role' g (makeS (Pi.setSo T true false { T.so true false with known := (T.so true false).known + 1 }) ((T.so true false).known * 4 + 1)) Y' ∧ Y'.n = Y.n + 1 ∧ Stq (fun r => r ≠ 0) w w' role role' := by
  obtain ⟨n, hn0⟩ : ∃ n, (T.so true false).known = n := ⟨_, rfl⟩
  obtain ⟨may, hmay⟩ : ∃ n, (T.so true false).may = n := ⟨_, rfl⟩
  obtain ⟨so, hso⟩ : ∃ b, Y.so true false = b := ⟨_, rfl⟩
  rw [hn0] at hk hlt hn ⊢
  rw [hmay] at hlt
  have o1 := or_1 n hk
  have o2 := or_2 n hk
  have o3 := or_3 n hk
  obtain ⟨X, hX⟩ : ∃ X, n * 4 = X := ⟨_, rfl⟩
  rw [hX] at o1 o2 o3 hn ⊢
  obtain ⟨X1, hX1⟩ : ∃ X1, X + 1 = X1 := ⟨_, rfl⟩
  obtain ⟨X2, hX2⟩ : ∃ X2, X + 2 = X2 := ⟨_, rfl⟩
  obtain ⟨X3, hX3⟩ : ∃ X3, X + 3 = X3 := ⟨_, rfl⟩
  rw [hX1] at hn ⊢
  try rw [hX1] at o1 o3
  try rw [hX2] at o2
  try rw [hX3] at o3
  have hxi : (n : Int) * 4 = (X : Int) := by omega
  have hxw : IntKind.u64.wrap (X : Int) = (X : Int) := IntWalk.u64_in _ (by omega)
  have hnw : IntKind.u64.wrap ((n : Int) + 1) = (n : Int) + 1 := IntWalk.u64_in _ (by omega)
  have q : decide ((may : Int) ≤ (n : Int)) = false := decide_eq_false (by omega)
  have q' : decide (may ≤ n) = false := decide_eq_false (by omega)
  have HG := Lib.hid (fun (x : World) (hz : TZ x role g T Y) => (⟨by have := hz.row.cr.at_ 0; rw [hsv] at this; exact this, hz.row.cr.at_ 10, by have := (hz.so true false).cr.at_ 0; rw [hso, hn0] at this; exact this, by have := (hz.so true false).cr.at_ 1; rw [hso, hmay] at this; exact this, by have := (hz.so true false).cr.fr 0; rw [hso] at this; exact this⟩ : x.cell? ⟨g, 0, none⟩ = some (.bool true) ∧ x.cell? ⟨g, 10, none⟩ = some (.map (some Y.ms)) ∧ x.cell? ⟨so, 0, none⟩ = some (.int .u64 (n : Int)) ∧ x.cell? ⟨so, 1, none⟩ = some (.int .u64 (may : Int)) ∧ x.frozen? ⟨so, 0, none⟩ = false))
  have HL := Lib.hid (fun (x : World) (hz : TZ x role g T Y) => by have hq := hz.sm.1.choose_spec.look true false; rw [hso] at hq; exact hq)
  have H := Lib.hid h
  have HS := Lib.hid (fun (x : World) (hz : TZ x role g T Y) => by have hq := hz.setSoC true false 0 (u64 (n + 1)) (s := { T.so true false with known := n + 1 }) rfl; rw [hso] at hq; exact hq)
  have HN := Lib.hid (show (Pi.setSo T true false { T.so true false with known := n + 1 }).l _ = none from hn)
  have HY := Lib.hid hY
  have HX := Lib.hid (show X3 < 18446744073709551616 by omega)
  have HX12 := Lib.hid (show X1 = X + 1 ∧ X2 = X + 2 ∧ X3 = X + 3 by omega)
  have l0 : ∀ m, (Instr.lookup 57 (.map (some Y.ms)) (.agg #[.bool true, .bool false]) false).run Try.prog (w.drewN m) = .ok (.pointer (some ⟨so, 0, none⟩)) (w.drewN m) := fun m => HL.out _ (h.bel (bel_drewN _ w m))
  have g0 := (HG.out w h).1
  have g10 := (HG.out w h).2.1
  have s0 := (HG.out w h).2.2.1
  have s1 := (HG.out w h).2.2.2.1
  clear h hsv hk hlt hn hY hn0 hmay hso hX hX1 hX2 hX3
  unfold ptr
  go_enter Try.func10, Try.ntmps10
  go_wp2_with fail
  go_quiet (fail)
  clear g0 g10 s0 s1 l0
  have bV := bel_drewN w.heap.size w nq
  obtain ⟨V, hV⟩ : ∃ q, w.drewN nq = q := ⟨_, rfl⟩
  rw [hV] at bV ⊢
  have BV := Lib.hid bV
  have HV := Lib.hid (H.out.bel bV)
  clear hV bV
  have s0 : V.cell? ⟨so, 0, none⟩ = some (.int .u64 (n : Int)) := (HG.out V HV.out).2.2.1
  have s1 : V.cell? ⟨so, 1, none⟩ = some (.int .u64 (may : Int)) := (HG.out V HV.out).2.2.2.1
  go_wp2_with fail
  go_quiet (fail)
  clear s0 s1
  have bV := bel_drewN V.heap.size V nq
  obtain ⟨U, hV⟩ : ∃ q, V.drewN nq = q := ⟨_, rfl⟩
  rw [hV] at bV ⊢
  have BU := Lib.hid bV
  have HU := Lib.hid (HV.out.bel bV)
  clear hV bV
  have s0 : U.cell? ⟨so, 0, none⟩ = some (.int .u64 (n : Int)) := (HG.out U HU.out).2.2.1
  have f0 := (HG.out U HU.out).2.2.2.2
  have g0 : U.cell? ⟨g, 0, none⟩ = some (.bool true) := (HG.out U HU.out).1
  have hs := HS.out U HU.out
  unfold u64 at hs
  have hwc : U.setCell ⟨so, 0, none⟩ (.int .u64 ((n : Int) + 1)) = U.setCell ⟨so, 0, none⟩ (.int .u64 ((n + 1 : Nat) : Int)) := by congr 2
  rw [← hwc] at hs
  obtain ⟨W2, hW2⟩ : ∃ q, U.setCell ⟨so, 0, none⟩ (.int .u64 ((n : Int) + 1)) = q := ⟨_, rfl⟩
  rw [hW2] at hs
  have HS2 := Lib.hid hs
  have HMK := Lib.hid (make_any (id := X1) hs.1 (by have := HX12.out; have := HX.out; omega) HN.out HY.out)
  unfold ptr at HMK
  clear hs hwc
  go_wp2_with (go_at_call 22; refine HMK.out.mono ?_; rintro y w5 ⟨role5, sb, rfl, z5, t5⟩)
  go_ret2
  refine ⟨rfl, role5, _, z5, rfl, ?_⟩
  exact (((Stq.bel BV.out H.out.top).trans (Stq.bel BU.out HV.out.top)).trans HS2.out.2).trans t5
set_option maxHeartbeats 4000000 in
theorem open_false_true (h : TZ w role g T Y) (hsv : T.srv = false) (hY : Y.n < maxLen) (hk : (T.so false true).known < 1152921504606846976) (hlt : (T.so false true).known < (T.so false true).may) (hn : T.l ((T.so false true).known * 4 + 2) = none) :
    Calls Try.prog 10 #[ptr g, .bool true] w fun e w' => e = .returned (.tuple #[.int .u64 (((T.so false true).known * 4 + 2 : Nat) : Int), .int .i64 0]) ∧ ∃ role' Y', TZ w' role' g (makeS (Pi.setSo T false true { T.so false true with known := (T.so false true).known + 1 }) ((T.so false true).known * 4 + 2)) Y' ∧ Y'.n = Y.n + 1 ∧ Stq (fun r => r ≠ 0) w w' role role' := by
  obtain ⟨n, hn0⟩ : ∃ n, (T.so false true).known = n := ⟨_, rfl⟩
  obtain ⟨may, hmay⟩ : ∃ n, (T.so false true).may = n := ⟨_, rfl⟩
  obtain ⟨so, hso⟩ : ∃ b, Y.so false true = b := ⟨_, rfl⟩
  rw [hn0] at hk hlt hn ⊢
  rw [hmay] at hlt
  have o1 := or_1 n hk
  have o2 := or_2 n hk
  have o3 := or_3 n hk
  obtain ⟨X, hX⟩ : ∃ X, n * 4 = X := ⟨_, rfl⟩
  rw [hX] at o1 o2 o3 hn ⊢
  obtain ⟨X1, hX1⟩ : ∃ X1, X + 1 = X1 := ⟨_, rfl⟩
  obtain ⟨X2, hX2⟩ : ∃ X2, X + 2 = X2 := ⟨_, rfl⟩
  obtain ⟨X3, hX3⟩ : ∃ X3, X + 3 = X3 := ⟨_, rfl⟩
  rw [hX2] at hn ⊢
  try rw [hX1] at o1 o3
  try rw [hX2] at o2
  try rw [hX3] at o3
  have hxi : (n : Int) * 4 = (X : Int) := by omega
  have hxw : IntKind.u64.wrap (X : Int) = (X : Int) := IntWalk.u64_in _ (by omega)
  have hnw : IntKind.u64.wrap ((n : Int) + 1) = (n : Int) + 1 := IntWalk.u64_in _ (by omega)
  have q : decide ((may : Int) ≤ (n : Int)) = false := decide_eq_false (by omega)
  have q' : decide (may ≤ n) = false := decide_eq_false (by omega)
  have HG := Lib.hid (fun (x : World) (hz : TZ x role g T Y) => (⟨by have := hz.row.cr.at_ 0; rw [hsv] at this; exact this, hz.row.cr.at_ 10, by have := (hz.so false true).cr.at_ 0; rw [hso, hn0] at this; exact this, by have := (hz.so false true).cr.at_ 1; rw [hso, hmay] at this; exact this, by have := (hz.so false true).cr.fr 0; rw [hso] at this; exact this⟩ : x.cell? ⟨g, 0, none⟩ = some (.bool false) ∧ x.cell? ⟨g, 10, none⟩ = some (.map (some Y.ms)) ∧ x.cell? ⟨so, 0, none⟩ = some (.int .u64 (n : Int)) ∧ x.cell? ⟨so, 1, none⟩ = some (.int .u64 (may : Int)) ∧ x.frozen? ⟨so, 0, none⟩ = false))
  have HL := Lib.hid (fun (x : World) (hz : TZ x role g T Y) => by have hq := hz.sm.1.choose_spec.look false true; rw [hso] at hq; exact hq)
  have H := Lib.hid h
  have HS := Lib.hid (fun (x : World) (hz : TZ x role g T Y) => by have hq := hz.setSoC false true 0 (u64 (n + 1)) (s := { T.so false true with known := n + 1 }) rfl; rw [hso] at hq; exact hq)
  have HN := Lib.hid (show (Pi.setSo T false true { T.so false true with known := n + 1 }).l _ = none from hn)
  have HY := Lib.hid hY
  have HX := Lib.hid (show X3 < 18446744073709551616 by omega)
  have HX12 := Lib.hid (show X1 = X + 1 ∧ X2 = X + 2 ∧ X3 = X + 3 by omega)
  have l0 : ∀ m, (Instr.lookup 57 (.map (some Y.ms)) (.agg #[.bool false, .bool true]) false).run Try.prog (w.drewN m) = .ok (.pointer (some ⟨so, 0, none⟩)) (w.drewN m) := fun m => HL.out _ (h.bel (bel_drewN _ w m))
  have g0 := (HG.out w h).1
  have g10 := (HG.out w h).2.1
  have s0 := (HG.out w h).2.2.1
  have s1 := (HG.out w h).2.2.2.1
  clear h hsv hk hlt hn hY hn0 hmay hso hX hX1 hX2 hX3
  unfold ptr
  go_enter Try.func10, Try.ntmps10
  go_wp2_with fail
  go_quiet (fail)
  clear g0 g10 s0 s1 l0
  have bV := bel_drewN w.heap.size w nq
  obtain ⟨V, hV⟩ : ∃ q, w.drewN nq = q := ⟨_, rfl⟩
  rw [hV] at bV ⊢
  have BV := Lib.hid bV
  have HV := Lib.hid (H.out.bel bV)
  clear hV bV
  have s0 : V.cell? ⟨so, 0, none⟩ = some (.int .u64 (n : Int)) := (HG.out V HV.out).2.2.1
  have s1 : V.cell? ⟨so, 1, none⟩ = some (.int .u64 (may : Int)) := (HG.out V HV.out).2.2.2.1
  go_wp2_with fail
  go_quiet (fail)
  clear s0 s1
  have bV := bel_drewN V.heap.size V nq
  obtain ⟨U, hV⟩ : ∃ q, V.drewN nq = q := ⟨_, rfl⟩
  rw [hV] at bV ⊢
  have BU := Lib.hid bV
  have HU := Lib.hid (HV.out.bel bV)
  clear hV bV
  have s0 : U.cell? ⟨so, 0, none⟩ = some (.int .u64 (n : Int)) := (HG.out U HU.out).2.2.1
  have f0 := (HG.out U HU.out).2.2.2.2
  have g0 : U.cell? ⟨g, 0, none⟩ = some (.bool false) := (HG.out U HU.out).1
  have hs := HS.out U HU.out
  unfold u64 at hs
  have hwc : U.setCell ⟨so, 0, none⟩ (.int .u64 ((n : Int) + 1)) = U.setCell ⟨so, 0, none⟩ (.int .u64 ((n + 1 : Nat) : Int)) := by congr 2
  rw [← hwc] at hs
  obtain ⟨W2, hW2⟩ : ∃ q, U.setCell ⟨so, 0, none⟩ (.int .u64 ((n : Int) + 1)) = q := ⟨_, rfl⟩
  rw [hW2] at hs
  have HS2 := Lib.hid hs
  have HMK := Lib.hid (make_any (id := X2) hs.1 (by have := HX12.out; have := HX.out; omega) HN.out HY.out)
  unfold ptr at HMK
  clear hs hwc
  go_wp2_with (go_at_call 22; refine HMK.out.mono ?_; rintro y w5 ⟨role5, sb, rfl, z5, t5⟩)
  go_ret2
  refine ⟨rfl, role5, _, z5, rfl, ?_⟩
  exact (((Stq.bel BV.out H.out.top).trans (Stq.bel BU.out HV.out.top)).trans HS2.out.2).trans t5
set_option maxHeartbeats 4000000 in
theorem open_false_false (h : TZ w role g T Y) (hsv : T.srv = false) (hY : Y.n < maxLen) (hk : (T.so false false).known < 1152921504606846976) (hlt : (T.so false false).known < (T.so false false).may) (hn : T.l ((T.so false false).known * 4 + 0) = none) :
    Calls Try.prog 10 #[ptr g, .bool false] w fun e w' => e = .returned (.tuple #[.int .u64 (((T.so false false).known * 4 + 0 : Nat) : Int), .int .i64 0]) ∧ ∃ role' Y', TZ w' role' g (makeS (Pi.setSo T false false { T.so false false with known := (T.so false false).known + 1 }) ((T.so false false).known * 4 + 0)) Y' ∧ Y'.n = Y.n + 1 ∧ Stq (fun r => r ≠ 0) w w' role role' := by
  obtain ⟨n, hn0⟩ : ∃ n, (T.so false false).known = n := ⟨_, rfl⟩
  obtain ⟨may, hmay⟩ : ∃ n, (T.so false false).may = n := ⟨_, rfl⟩
  obtain ⟨so, hso⟩ : ∃ b, Y.so false false = b := ⟨_, rfl⟩
  rw [hn0] at hk hlt hn ⊢
  rw [hmay] at hlt
  have o1 := or_1 n hk
  have o2 := or_2 n hk
  have o3 := or_3 n hk
  obtain ⟨X, hX⟩ : ∃ X, n * 4 = X := ⟨_, rfl⟩
  rw [hX] at o1 o2 o3 hn ⊢
  obtain ⟨X1, hX1⟩ : ∃ X1, X + 1 = X1 := ⟨_, rfl⟩
  obtain ⟨X2, hX2⟩ : ∃ X2, X + 2 = X2 := ⟨_, rfl⟩
  obtain ⟨X3, hX3⟩ : ∃ X3, X + 3 = X3 := ⟨_, rfl⟩
  rw [Nat.add_zero] at hn ⊢
  try rw [hX1] at o1 o3
  try rw [hX2] at o2
  try rw [hX3] at o3
  have hxi : (n : Int) * 4 = (X : Int) := by omega
  have hxw : IntKind.u64.wrap (X : Int) = (X : Int) := IntWalk.u64_in _ (by omega)
  have hnw : IntKind.u64.wrap ((n : Int) + 1) = (n : Int) + 1 := IntWalk.u64_in _ (by omega)
  have q : decide ((may : Int) ≤ (n : Int)) = false := decide_eq_false (by omega)
  have q' : decide (may ≤ n) = false := decide_eq_false (by omega)
  have HG := Lib.hid (fun (x : World) (hz : TZ x role g T Y) => (⟨by have := hz.row.cr.at_ 0; rw [hsv] at this; exact this, hz.row.cr.at_ 10, by have := (hz.so false false).cr.at_ 0; rw [hso, hn0] at this; exact this, by have := (hz.so false false).cr.at_ 1; rw [hso, hmay] at this; exact this, by have := (hz.so false false).cr.fr 0; rw [hso] at this; exact this⟩ : x.cell? ⟨g, 0, none⟩ = some (.bool false) ∧ x.cell? ⟨g, 10, none⟩ = some (.map (some Y.ms)) ∧ x.cell? ⟨so, 0, none⟩ = some (.int .u64 (n : Int)) ∧ x.cell? ⟨so, 1, none⟩ = some (.int .u64 (may : Int)) ∧ x.frozen? ⟨so, 0, none⟩ = false))
  have HL := Lib.hid (fun (x : World) (hz : TZ x role g T Y) => by have hq := hz.sm.1.choose_spec.look false false; rw [hso] at hq; exact hq)
  have H := Lib.hid h
  have HS := Lib.hid (fun (x : World) (hz : TZ x role g T Y) => by have hq := hz.setSoC false false 0 (u64 (n + 1)) (s := { T.so false false with known := n + 1 }) rfl; rw [hso] at hq; exact hq)
  have HN := Lib.hid (show (Pi.setSo T false false { T.so false false with known := n + 1 }).l _ = none from hn)
  have HY := Lib.hid hY
  have HX := Lib.hid (show X3 < 18446744073709551616 by omega)
  have HX12 := Lib.hid (show X1 = X + 1 ∧ X2 = X + 2 ∧ X3 = X + 3 by omega)
  have l0 : ∀ m, (Instr.lookup 57 (.map (some Y.ms)) (.agg #[.bool false, .bool false]) false).run Try.prog (w.drewN m) = .ok (.pointer (some ⟨so, 0, none⟩)) (w.drewN m) := fun m => HL.out _ (h.bel (bel_drewN _ w m))
  have g0 := (HG.out w h).1
  have g10 := (HG.out w h).2.1
  have s0 := (HG.out w h).2.2.1
  have s1 := (HG.out w h).2.2.2.1
  clear h hsv hk hlt hn hY hn0 hmay hso hX hX1 hX2 hX3
  unfold ptr
  go_enter Try.func10, Try.ntmps10
  go_wp2_with fail
  go_quiet (fail)
  clear g0 g10 s0 s1 l0
  have bV := bel_drewN w.heap.size w nq
  obtain ⟨V, hV⟩ : ∃ q, w.drewN nq = q := ⟨_, rfl⟩
  rw [hV] at bV ⊢
  have BV := Lib.hid bV
  have HV := Lib.hid (H.out.bel bV)
  clear hV bV
  have s0 : V.cell? ⟨so, 0, none⟩ = some (.int .u64 (n : Int)) := (HG.out V HV.out).2.2.1
  have s1 : V.cell? ⟨so, 1, none⟩ = some (.int .u64 (may : Int)) := (HG.out V HV.out).2.2.2.1
  go_wp2_with fail
  go_quiet (fail)
  clear s0 s1
  have bV := bel_drewN V.heap.size V nq
  obtain ⟨U, hV⟩ : ∃ q, V.drewN nq = q := ⟨_, rfl⟩
  rw [hV] at bV ⊢
  have BU := Lib.hid bV
  have HU := Lib.hid (HV.out.bel bV)
  clear hV bV
  have s0 : U.cell? ⟨so, 0, none⟩ = some (.int .u64 (n : Int)) := (HG.out U HU.out).2.2.1
  have f0 := (HG.out U HU.out).2.2.2.2
  have g0 : U.cell? ⟨g, 0, none⟩ = some (.bool false) := (HG.out U HU.out).1
  have hs := HS.out U HU.out
  unfold u64 at hs
  have hwc : U.setCell ⟨so, 0, none⟩ (.int .u64 ((n : Int) + 1)) = U.setCell ⟨so, 0, none⟩ (.int .u64 ((n + 1 : Nat) : Int)) := by congr 2
  rw [← hwc] at hs
  obtain ⟨W2, hW2⟩ : ∃ q, U.setCell ⟨so, 0, none⟩ (.int .u64 ((n : Int) + 1)) = q := ⟨_, rfl⟩
  rw [hW2] at hs
  have HS2 := Lib.hid hs
  have HMK := Lib.hid (make_any (id := X) hs.1 (by have := HX12.out; have := HX.out; omega) HN.out HY.out)
  unfold ptr at HMK
  clear hs hwc
  go_wp2_with (go_at_call 22; refine HMK.out.mono ?_; rintro y w5 ⟨role5, sb, rfl, z5, t5⟩)
  go_ret2
  refine ⟨rfl, role5, _, z5, rfl, ?_⟩
  exact (((Stq.bel BV.out H.out.top).trans (Stq.bel BU.out HV.out.top)).trans HS2.out.2).trans t5
end
end Go.Proofs.Yteekafpkbdbadaa.Pi
