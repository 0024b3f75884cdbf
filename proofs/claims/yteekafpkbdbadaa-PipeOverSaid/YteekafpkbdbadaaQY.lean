/- pipe: ends, open, Done. -/
import Derived.Test.YteekafpkbdbadaaQX
set_option maxRecDepth 100000
set_option linter.unusedVariables false
namespace Go.Proofs.Yteekafpkbdbadaa.Pi
open Go.RowKit
section
variable {w w' : World} {role : Nat → Nat} {r ib ti qb : Nat} {i : InS}
/-- a part to receive that is done -/
theorem iends_done (h : IP w role r ib ti qb i) (hd : i.done = true) : Calls Try.prog 32 #[ptr ib] w fun e w' => e = .returned (.bool true) ∧ Below w.heap.size w w' := by
  have c5 : w.cell? ⟨ib, 5, none⟩ = some (.bool true) := by rw [← hd]; exact h.ic.cr.at_ 5
  clear h hd
  unfold ptr
  go_enter Try.func32, Try.ntmps32
  go_wp2_with fail
  try go_quiet (fail)
  try go_wp2
  go_ret
  exact ⟨rfl, by first | exact bel_drewN _ _ _ | exact Below.refl _ _⟩
theorem iends_not (h : IP w role r ib ti qb i) (hd : i.done = false) (hr : i.reset = false) : Calls Try.prog 32 #[ptr ib] w fun e w' => e = .returned (.bool false) ∧ Below w.heap.size w w' := by
  have c5 : w.cell? ⟨ib, 5, none⟩ = some (.bool false) := by rw [← hd]; exact h.ic.cr.at_ 5
  have c2 : w.cell? ⟨ib, 2, none⟩ = some (.bool false) := by rw [← hr]; exact h.ic.cr.at_ 2
  clear h hd hr
  unfold ptr
  go_enter Try.func32, Try.ntmps32
  go_wp2_with fail
  try go_quiet (fail)
  try go_wp2
  go_ret
  exact ⟨rfl, by first | exact bel_drewN _ _ _ | exact Below.refl _ _⟩
theorem oends_nil (w : World) : Calls Try.prog 33 #[.pointer none] w fun e w' => e = .returned (.bool true) ∧ w = w' := by
  go_enter Try.func33, Try.ntmps33
  go_wp2
  go_ret
  exact ⟨rfl, rfl⟩
/-- no more may come of a stream whose end is known -/
theorem open_end (h : IP w role r ib ti qb i) (hk : i.qu.known = true) : Calls Try.prog 52 #[ptr ib] w fun e w' => e = .returned (.bool false) ∧ Below w.heap.size w w' := by
  have i1 : w.cell? ⟨ib, 1, none⟩ = some (.pointer (some ⟨qb, 0, none⟩)) := h.ic.cr.at_ 1
  have HQE : Hid (Calls Try.prog 63 #[ptr qb] w fun e w' => e = .returned (.tuple #[.int .u64 (i.qu.last : Int), .bool true]) ∧ Below w.heap.size w w') := Lib.hid (by
    obtain ⟨x, vs, q1, _⟩ := h.qz.ex
    have hq := qend_any q1.cr
    rw [hk] at hq
    exact hq)
  have H := Lib.hid h
  obtain ⟨rs, hrs⟩ : ∃ b, i.reset = b := ⟨_, rfl⟩
  have HRS := Lib.hid hrs
  clear h hk hrs
  unfold ptr at HQE ⊢
  go_enter Try.func52, Try.ntmps52
  go_upto_region 2 with (go_at_call 63; refine HQE.out.mono ?_; rintro x w2 ⟨rfl, B2⟩)
  have c2 : w2.cell? ⟨ib, 2, none⟩ = some (.bool rs) := by have hq := (H.out.ic.cr.bel B2).at_ 2; rw [← HRS.out]; exact hq
  cases rs
  · go_wp2_with fail
    go_ret
    exact ⟨rfl, B2⟩
  · go_wp2_with fail
    go_ret
    exact ⟨rfl, B2⟩
theorem qdone_any {rd hi la : Nat} {v0 : Value} (h : CR w qb 111 [v0, u64 rd, u64 hi, u64 la, .bool true]) (he : rd = la) : Calls Try.prog 50 #[ptr qb] w fun e w' => e = .returned (.bool true) ∧ Below w.heap.size w w' := by
  subst he
  have c1 : w.cell? ⟨qb, 1, none⟩ = some (.int .u64 (rd : Int)) := h.at_ 1
  have c3 : w.cell? ⟨qb, 3, none⟩ = some (.int .u64 (rd : Int)) := h.at_ 3
  have c4 : w.cell? ⟨qb, 4, none⟩ = some (.bool true) := h.at_ 4
  clear h
  unfold ptr
  go_enter Try.func50, Try.ntmps50
  go_wp2_with fail
  go_quiet (fail)
  go_wp2
  go_ret
  exact ⟨rfl, bel_drewN _ _ _⟩
end
end Go.Proofs.Yteekafpkbdbadaa.Pi
