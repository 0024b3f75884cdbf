/- credit: Purse and Till. -/
import Derived.Test.YteekafpkbdbadaaOA
set_option maxRecDepth 100000
set_option linter.unusedVariables false
namespace Go.Proofs.Yteekafpkbdbadaa.Pi
open Go.RowKit
/-- the greatest number -/
def M62 : Nat := 4611686018427387903
theorem most_any (w : World) (n : Nat) : Calls Try.prog 39 #[.int .u64 (n : Int)] w fun e w' => e = .returned (.int .u64 ((min n 4611686018427387903 : Nat) : Int)) ∧ w = w' := by
  obtain ⟨X, hX⟩ : ∃ X, min n 4611686018427387903 = X := ⟨_, rfl⟩
  rw [hX]
  have HX := Lib.hid hX
  clear hX
  go_enter Try.func39, Try.ntmps39
  go_wp2_with (refine L_min2 rfl n 4611686018427387903 X HX.out rfl rfl (by rfl) ?_)
  go_ret
  exact ⟨rfl, rfl⟩
theorem newPurse_any (w : World) (n : Nat) : Calls Try.prog 19 #[.int .u64 (n : Int)] w fun e w' => e = .returned (ptr w.heap.size) ∧ CR w' w.heap.size 97 [u64 (min n 4611686018427387903), u64 0] ∧ Below w.heap.size w w' := by
  have HM := Lib.hid (fun (x : World) => most_any x n)
  obtain ⟨X, hX⟩ : ∃ X, min n 4611686018427387903 = X := ⟨_, rfl⟩
  rw [hX] at HM ⊢
  have HC := Lib.hid (CR.new w 97 [u64 X, u64 0])
  have HB := Lib.hid (below_alloc w (.cells [u64 X, u64 0].toArray 97))
  clear hX
  go_enter Try.func19, Try.ntmps19
  go_wp2_with (go_at_call 39; refine (HM.out w).mono ?_; rintro y w1 ⟨rfl, rfl⟩)
  go_ret
  exact ⟨rfl, HC.out, HB.out⟩
/-- a purse -/
def PuZ (w : World) (b l s : Nat) : Prop := CR w b 97 [u64 l, u64 s]
/-- a till -/
def TiZ (w : World) (b wi l c t : Nat) : Prop := CR w b 99 [u64 wi, u64 l, u64 c, u64 t]
theorem newTill_any (w : World) (n : Nat) : Calls Try.prog 20 #[.int .u64 (n : Int)] w fun e w' => e = .returned (ptr w.heap.size) ∧ TiZ w' w.heap.size (min n 4611686018427387903) (min n 4611686018427387903) 0 0 ∧ Below w.heap.size w w' := by
  have HM := Lib.hid (fun (x : World) => most_any x n)
  obtain ⟨X, hX⟩ : ∃ X, min n 4611686018427387903 = X := ⟨_, rfl⟩
  rw [hX] at HM ⊢
  have HC := Lib.hid (CR.new w 99 [u64 X, u64 X, u64 0, u64 0])
  have HB := Lib.hid (below_alloc w (.cells [u64 X, u64 X, u64 0, u64 0].toArray 99))
  clear hX
  go_enter Try.func20, Try.ntmps20
  go_wp2_with (go_at_call 39; refine (HM.out w).mono ?_; rintro y w1 ⟨rfl, rfl⟩)
  go_ret
  exact ⟨rfl, HC.out, HB.out⟩
section
variable {w : World} {b : Nat}
theorem grant_any {l s : Nat} (h : PuZ w b l s) (n : Nat) : Calls Try.prog 21 #[ptr b, .int .u64 (n : Int)] w fun e w' => (∃ r, e = .returned (.bool r)) ∧ PuZ w' b (max l (min n 4611686018427387903)) s ∧ w.grownBy w' (some b) := by
  have HM := Lib.hid (fun (x : World) => most_any x n)
  have c0 : w.cell? ⟨b, 0, none⟩ = some (.int .u64 (l : Int)) := h.at_ 0
  have H := Lib.hid h
  obtain ⟨X, hX⟩ : ∃ X, min n 4611686018427387903 = X := ⟨_, rfl⟩
  rw [hX] at HM ⊢
  clear h hX
  unfold ptr
  by_cases hle : X ≤ l
  · have q : decide ((X : Int) ≤ (l : Int)) = true := decide_eq_true (by omega)
    have q' : decide (X ≤ l) = true := decide_eq_true hle
    have HE := Lib.hid (show max l X = l by omega)
    clear hle
    go_enter Try.func21, Try.ntmps21
    go_wp2_with fail
    go_quiet ((go_at_call 39; with_reducible exact Calls.quiet_of_same ((HM.out _).mono fun e w' h => ⟨h.1, h.2.symm⟩)))
    go_wp2
    go_ret
    exact ⟨⟨_, rfl⟩, by rw [HE.out]; exact H.out.keep rfl, grown_bel (bel_drewN _ w _) _⟩
  · have q : decide ((X : Int) ≤ (l : Int)) = false := decide_eq_false (by omega)
    have q' : decide (X ≤ l) = false := decide_eq_false hle
    have HE := Lib.hid (show max l X = X by omega)
    clear hle
    go_enter Try.func21, Try.ntmps21
    go_wp2_with fail
    go_quiet ((go_at_call 39; with_reducible exact Calls.quiet_of_same ((HM.out _).mono fun e w' h => ⟨h.1, h.2.symm⟩)))
    have bV := bel_drewN w.heap.size w nq
    obtain ⟨V, hV⟩ : ∃ V, w.drewN nq = V := ⟨_, rfl⟩
    rw [hV] at bV ⊢
    have HV := Lib.hid (H.out.bel bV)
    have BV := Lib.hid bV
    have f0 := HV.out.fr 0
    have d0 : V.cell? ⟨b, 0, none⟩ = some (.int .u64 (l : Int)) := HV.out.at_ 0
    clear hV bV c0
    go_wp2_with (go_at_call 39; refine (HM.out V).mono ?_; rintro y w1 ⟨rfl, rfl⟩)
    go_ret
    exact ⟨⟨_, rfl⟩, by rw [HE.out]; exact HV.out.set 0 (u64 X), grown_then BV.out (grown_set V b 0 _)⟩
theorem ttold_any {wi l c t : Nat} (h : TiZ w b wi l c t) : Calls Try.prog 61 #[ptr b] w fun e w' => e = .returned (.tuple #[u64 l, u64 c, u64 t]) ∧ Below w.heap.size w w' := by
  have c1 : w.cell? ⟨b, 1, none⟩ = some (.int .u64 (l : Int)) := h.at_ 1
  have c2 : w.cell? ⟨b, 2, none⟩ = some (.int .u64 (c : Int)) := h.at_ 2
  have c3 : w.cell? ⟨b, 3, none⟩ = some (.int .u64 (t : Int)) := h.at_ 3
  clear h
  unfold ptr u64
  go_enter Try.func61, Try.ntmps61
  go_wp2_with fail
  go_quiet (fail)
  go_wp2
  go_ret3
  exact ⟨rfl, bel_drewN _ _ _⟩
theorem tcame_any {wi l c t : Nat} (h : TiZ w b wi l c t) (n : Nat) (hn : n ≤ l) : Calls Try.prog 64 #[ptr b, .int .u64 (n : Int)] w fun e w' => (∃ r, e = .returned (.int .i64 r)) ∧ TiZ w' b wi l (max c n) t ∧ w.grownBy w' (some b) := by
  have c1 : w.cell? ⟨b, 1, none⟩ = some (.int .u64 (l : Int)) := h.at_ 1
  have c2 : w.cell? ⟨b, 2, none⟩ = some (.int .u64 (c : Int)) := h.at_ 2
  have f2 := h.fr 2
  have H := Lib.hid h
  obtain ⟨X, hX⟩ : ∃ X, max c n = X := ⟨_, rfl⟩
  rw [hX]
  have HX := Lib.hid hX
  have q : decide (l < n) = false := decide_eq_false (by omega)
  clear h hX hn
  unfold ptr
  go_enter Try.func64, Try.ntmps64
  go_wp2_with (refine L_max2 rfl c n X HX.out rfl rfl (by rfl) ?_)
  go_ret
  exact ⟨⟨_, rfl⟩, H.out.set 2 (u64 X), grown_set w b 2 _⟩
theorem ttook_any {wi l c t : Nat} (h : TiZ w b wi l c t) (n : Nat) (ht : t ≤ c) (hc : c < 18446744073709551616) : Calls Try.prog 37 #[ptr b, .int .u64 (n : Int)] w fun e w' => (∃ r, e = .returned (.int .i64 r)) ∧ TiZ w' b wi l c (if n ≤ c - t then t + n else t) ∧ w.grownBy w' (some b) := by
  have c2 : w.cell? ⟨b, 2, none⟩ = some (.int .u64 (c : Int)) := h.at_ 2
  have c3 : w.cell? ⟨b, 3, none⟩ = some (.int .u64 (t : Int)) := h.at_ 3
  have H := Lib.hid h
  obtain ⟨D, hD⟩ : ∃ D, c - t = D := ⟨_, rfl⟩
  have hs : IntKind.u64.wrap (D : Int) = (D : Int) := IntWalk.u64_in _ (by omega)
  have hs2 : (c : Int) - (t : Int) = (D : Int) := by omega
  rw [hD]
  have HD := Lib.hid hD
  clear h hD
  unfold ptr
  by_cases hle : n ≤ D
  · have q : decide ((D : Int) < (n : Int)) = false := decide_eq_false (by omega)
    have q' : decide (D < n) = false := decide_eq_false (by omega)
    have hw : IntKind.u64.wrap ((t : Int) + (n : Int)) = (t : Int) + (n : Int) := IntWalk.u64_in _ (by omega)
    have HL := Lib.hid hle
    clear hle ht hc
    go_enter Try.func37, Try.ntmps37
    go_wp2_with fail
    go_quiet (fail)
    have bV := bel_drewN w.heap.size w nq
    obtain ⟨V, hV⟩ : ∃ V, w.drewN nq = V := ⟨_, rfl⟩
    rw [hV] at bV ⊢
    have HV := Lib.hid (H.out.bel bV)
    have BV := Lib.hid bV
    have f0 := HV.out.fr 3
    have d0 : V.cell? ⟨b, 3, none⟩ = some (.int .u64 (t : Int)) := HV.out.at_ 3
    clear hV bV c2 c3
    go_wp2
    go_ret
    exact ⟨⟨_, rfl⟩, HV.out.set 3 (u64 (t + n)), grown_then BV.out (grown_set V b 3 _)⟩
  · have q : decide ((D : Int) < (n : Int)) = true := decide_eq_true (by omega)
    have q' : decide (D < n) = true := decide_eq_true (by omega)
    have HL := Lib.hid hle
    clear hle ht hc
    go_enter Try.func37, Try.ntmps37
    go_wp2_with fail
    go_quiet (fail)
    go_wp2
    go_ret
    exact ⟨⟨_, rfl⟩, H.out.keep rfl, grown_bel (bel_drewN _ w _) _⟩
/-- the limit that is to be told -/
def newsT (wi l t : Nat) : Option Nat := if max (wi / 2) 1 ≤ l - t then none else if min (t + wi) 4611686018427387903 ≤ l then none else some (min (t + wi) 4611686018427387903)
theorem tnews_any {wi l c t : Nat} (h : TiZ w b wi l c t) (ht : t ≤ l) (hl : l ≤ 4611686018427387903) (hw : wi ≤ 4611686018427387903) : Calls Try.prog 51 #[ptr b] w fun e w' => e = .returned (.tuple #[u64 ((newsT wi l t).getD 0), .bool (newsT wi l t).isSome]) ∧ TiZ w' b wi ((newsT wi l t).getD l) c t ∧ w.grownBy w' (some b) := by
  have c0 : w.cell? ⟨b, 0, none⟩ = some (.int .u64 (wi : Int)) := h.at_ 0
  have c1 : w.cell? ⟨b, 1, none⟩ = some (.int .u64 (l : Int)) := h.at_ 1
  have c3 : w.cell? ⟨b, 3, none⟩ = some (.int .u64 (t : Int)) := h.at_ 3
  have H := Lib.hid h
  obtain ⟨D, hD⟩ : ∃ D, l - t = D := ⟨_, rfl⟩
  obtain ⟨Y, hY⟩ : ∃ Y, t + wi = Y := ⟨_, rfl⟩
  have HM := Lib.hid (fun (x : World) => most_any x Y)
  obtain ⟨X, hX⟩ : ∃ X, min Y 4611686018427387903 = X := ⟨_, rfl⟩
  obtain ⟨F, hF⟩ : ∃ F, wi / 2 = F := ⟨_, rfl⟩
  obtain ⟨G, hG⟩ : ∃ G, max F 1 = G := ⟨_, rfl⟩
  have hs : IntKind.u64.wrap (D : Int) = (D : Int) := IntWalk.u64_in _ (by omega)
  have hs2 : (l : Int) - (t : Int) = (D : Int) := by omega
  have hq : (wi : Int) / 2 = (F : Int) := by omega
  have hq2 : Int.tdiv (wi : Int) 2 = (F : Int) := by rw [Int.tdiv_eq_ediv_of_nonneg (by omega)]; omega
  have hq3 : IntKind.u64.wrap (F : Int) = (F : Int) := IntWalk.u64_in _ (by omega)
  have hmx : ∀ (ts : Array TypeId) (ty : TypeId) (W : World), (Builtin.max_ ts ty #[.int .u64 (F : Int), .int .u64 1]).run Try.prog W = .ok (.int .u64 (G : Int)) W := fun ts ty W => by rw [← hG]; exact max2 W ts ty F 1
  have hwr : IntKind.u64.wrap (Y : Int) = (Y : Int) := IntWalk.u64_in _ (by omega)
  have hwr2 : (t : Int) + (wi : Int) = (Y : Int) := by omega
  unfold newsT
  rw [hD, hY, hX, hF, hG]
  rw [hX] at HM
  clear h hD hX hG hF hY hl hw
  unfold ptr
  by_cases hle : G ≤ D
  · have q : decide ((G : Int) ≤ (D : Int)) = true := decide_eq_true (by omega)
    have q' : decide (G ≤ D) = true := decide_eq_true (by omega)
    rw [if_pos hle]
    clear hle ht
    go_enter Try.func51, Try.ntmps51
    go_wp2_with fail
    go_quiet (fail)
    go_wp2
    go_ret2
    exact ⟨rfl, H.out.keep rfl, grown_bel (bel_drewN _ w _) _⟩
  · have q : decide ((G : Int) ≤ (D : Int)) = false := decide_eq_false (by omega)
    have q' : decide (G ≤ D) = false := decide_eq_false (by omega)
    rw [if_neg hle]
    clear hle ht
    by_cases hxl : X ≤ l
    · have r : decide ((X : Int) ≤ (l : Int)) = true := decide_eq_true (by omega)
      have r' : decide (X ≤ l) = true := decide_eq_true (by omega)
      rw [if_pos hxl]
      clear hxl
      go_enter Try.func51, Try.ntmps51
      go_wp2_with fail
      go_quiet (fail)
      have bV := bel_drewN w.heap.size w nq
      obtain ⟨V, hV⟩ : ∃ V, w.drewN nq = V := ⟨_, rfl⟩
      rw [hV] at bV ⊢
      have HV := Lib.hid (H.out.bel bV)
      have BV := Lib.hid bV
      have d0 : V.cell? ⟨b, 0, none⟩ = some (.int .u64 (wi : Int)) := HV.out.at_ 0
      have d1 : V.cell? ⟨b, 1, none⟩ = some (.int .u64 (l : Int)) := HV.out.at_ 1
      have d3 : V.cell? ⟨b, 3, none⟩ = some (.int .u64 (t : Int)) := HV.out.at_ 3
      clear hV bV c0 c1 c3
      go_wp2_with fail
      go_quiet ((go_at_call 39; with_reducible exact Calls.quiet_of_same ((HM.out _).mono fun e w' h => ⟨h.1, h.2.symm⟩)))
      go_wp2
      go_ret2
      exact ⟨rfl, HV.out.keep rfl, grown_then BV.out (grown_bel (bel_drewN _ V _) _)⟩
    · have r : decide ((X : Int) ≤ (l : Int)) = false := decide_eq_false (by omega)
      have r' : decide (X ≤ l) = false := decide_eq_false (by omega)
      rw [if_neg hxl]
      clear hxl
      go_enter Try.func51, Try.ntmps51
      go_wp2_with fail
      go_quiet (fail)
      have bV := bel_drewN w.heap.size w nq
      obtain ⟨V, hV⟩ : ∃ V, w.drewN nq = V := ⟨_, rfl⟩
      rw [hV] at bV ⊢
      have HV := Lib.hid (H.out.bel bV)
      have BV := Lib.hid bV
      have d0 : V.cell? ⟨b, 0, none⟩ = some (.int .u64 (wi : Int)) := HV.out.at_ 0
      have d1 : V.cell? ⟨b, 1, none⟩ = some (.int .u64 (l : Int)) := HV.out.at_ 1
      have d3 : V.cell? ⟨b, 3, none⟩ = some (.int .u64 (t : Int)) := HV.out.at_ 3
      clear hV bV c0 c1 c3
      go_wp2_with fail
      go_quiet ((go_at_call 39; with_reducible exact Calls.quiet_of_same ((HM.out _).mono fun e w' h => ⟨h.1, h.2.symm⟩)))
      have bU := bel_drewN V.heap.size V nq
      obtain ⟨U, hU⟩ : ∃ U, V.drewN nq = U := ⟨_, rfl⟩
      rw [hU] at bU ⊢
      have HU := Lib.hid (HV.out.bel bU)
      have BU := Lib.hid (btr BV.out bU)
      have e1 : U.cell? ⟨b, 1, none⟩ = some (.int .u64 (l : Int)) := HU.out.at_ 1
      have f1 := HU.out.fr 1
      clear hU bU d0 d1 d3
      go_wp2
      go_ret2
      exact ⟨rfl, HU.out.set 1 (u64 X), grown_then BU.out (grown_set U b 1 _)⟩
end
end Go.Proofs.Yteekafpkbdbadaa.Pi
