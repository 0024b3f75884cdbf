/- pipe: Open without credit. -/
import Derived.Test.YteekafpkbdbadaaOG
set_option maxRecDepth 100000
set_option linter.unusedVariables false
namespace Go.Proofs.Yteekafpkbdbadaa.Pi
open Go.RowKit
section
variable {w w' : World} {role : Nat → Nat} {g : Nat} {T : TaS} {Y : TaY}
set_option maxHeartbeats 4000000 in
theorem open_no (h : TZ w role g T Y) (un : Bool) (hlt : (T.so T.srv un).may ≤ (T.so T.srv un).known) :
    Calls Try.prog 10 #[ptr g, .bool un] w fun e w' => e = .returned (.tuple #[.int .u64 0, .int .i64 12]) ∧ TZ w' role g T Y ∧ Stq (fun r => r ≠ 0) w w' role role := by
  obtain ⟨n, hn0⟩ : ∃ n, (T.so T.srv un).known = n := ⟨_, rfl⟩
  obtain ⟨may, hmay⟩ : ∃ n, (T.so T.srv un).may = n := ⟨_, rfl⟩
  obtain ⟨so, hso⟩ : ∃ b, Y.so T.srv un = b := ⟨_, rfl⟩
  obtain ⟨sv, hsv⟩ : ∃ b, T.srv = b := ⟨_, rfl⟩
  rw [hsv] at hn0 hmay hso hlt
  rw [hn0, hmay] at hlt
  have q : decide ((may : Int) ≤ (n : Int)) = true := decide_eq_true (by omega)
  have q' : decide (may ≤ n) = true := decide_eq_true (by omega)
  have HG := Lib.hid (fun (x : World) (hz : TZ x role g T Y) => (⟨by have := hz.row.cr.at_ 0; rw [hsv] at this; exact this, hz.row.cr.at_ 10, by have := (hz.so sv un).cr.at_ 0; rw [hso, hn0] at this; exact this, by have := (hz.so sv un).cr.at_ 1; rw [hso, hmay] at this; exact this⟩ : x.cell? ⟨g, 0, none⟩ = some (.bool sv) ∧ x.cell? ⟨g, 10, none⟩ = some (.map (some Y.ms)) ∧ x.cell? ⟨so, 0, none⟩ = some (.int .u64 (n : Int)) ∧ x.cell? ⟨so, 1, none⟩ = some (.int .u64 (may : Int))))
  have HL := Lib.hid (fun (x : World) (hz : TZ x role g T Y) => by have hq := hz.sm.1.choose_spec.look sv un; rw [hso] at hq; exact hq)
  have H := Lib.hid h
  have l0 : ∀ m, (Instr.lookup 57 (.map (some Y.ms)) (.agg #[.bool sv, .bool un]) false).run Try.prog (w.drewN m) = .ok (.pointer (some ⟨so, 0, none⟩)) (w.drewN m) := fun m => HL.out _ (h.bel (bel_drewN _ w m))
  have g0 := (HG.out w h).1
  have g10 := (HG.out w h).2.1
  have s0 := (HG.out w h).2.2.1
  have s1 := (HG.out w h).2.2.2
  clear h hsv hlt hn0 hmay hso
  unfold ptr
  go_enter Try.func10, Try.ntmps10
  go_wp2_with fail
  go_quiet (fail)
  clear g0 g10 s0 s1 l0
  have bV := bel_drewN w.heap.size w nq
  obtain ⟨V, hV⟩ : ∃ q, w.drewN nq = q := ⟨_, rfl⟩
  rw [hV] at bV ⊢
  have BV := Lib.hid bV
  have HV := Lib.hid (H.out.bel bV)
  clear hV bV
  have s0 : V.cell? ⟨so, 0, none⟩ = some (.int .u64 (n : Int)) := (HG.out V HV.out).2.2.1
  have s1 : V.cell? ⟨so, 1, none⟩ = some (.int .u64 (may : Int)) := (HG.out V HV.out).2.2.2
  go_wp2_with fail
  go_quiet (fail)
  go_wp2
  go_ret2
  exact ⟨rfl, HV.out.bel (bel_drewN _ V _), (Stq.bel BV.out H.out.top).trans (Stq.bel (bel_drewN _ V _) HV.out.top)⟩
end
end Go.Proofs.Yteekafpkbdbadaa.Pi
