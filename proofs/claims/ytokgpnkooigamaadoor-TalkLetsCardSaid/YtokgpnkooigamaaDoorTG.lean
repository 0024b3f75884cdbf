/- word.right: what is refused ahead of its switch. -/
import Derived.Test.YtokgpnkooigamaaDoorTF
set_option maxRecDepth 100000
set_option linter.unusedVariables false
namespace Go.Proofs.YtokgpnkooigamaaDoor
open Go.RowKit
set_option maxHeartbeats 4000000 in
theorem right_fE (w : World) (m : MG) (s : ML) (hm : MR w m s) (hK : KA w) (p : Nat) (hp : partsS m.kind = some p) (he : emptyM (bareM p m) = false) :
    Calls Tryd.prog 45 #[.agg (mgc m s).toArray] w fun e w' => e = .returned (.bool false) ∧ Below w.heap.size w w' := by
  have hb := below_alloc w (.cells (mgc m s).toArray 31)
  have hR := CR.new w 31 (mgc m s)
  obtain ⟨w1, hw1⟩ : ∃ x, w.alloc (.cells (mgc m s).toArray 31) = x := ⟨_, rfl⟩
  obtain ⟨k, hk⟩ : ∃ k, w.heap.size = k := ⟨_, rfl⟩
  rw [hw1, hk] at hR
  rw [hw1] at hb
  have hpa := parts_any w1 m.kind (hK.bel hb (Nat.le_refl _))
  rw [hp] at hpa
  have Hpa := Lib.hid hpa
  have HR := Lib.hid hR
  have HB := Lib.hid hb
  have HE := Lib.hid (fun w' => empty_bare w' hm p)
  rw [he] at HE
  have HBa := Lib.hid (fun w' => bare_any w' m s p (parts_mem hp))
  obtain ⟨V, hV⟩ : ∃ V, Value.agg (mgc (bareM p m) (bareL p s)).toArray = V := ⟨_, rfl⟩
  rw [hV] at HE HBa
  have u0 : w1.cell? ⟨k, 0, none⟩ = some (.int .u64 (m.kind : Int)) := hR.at_ 0
  obtain ⟨X, hX⟩ : ∃ X, maxM m = X := ⟨_, rfl⟩
  skip
  have HX := Lib.hid hX
  clear hb hR hpa hK hp he hm hX hV
  unfold mgc u64 SA.v at hw1 ⊢
  go_enter Tryd.func45, Tryd.ntmps45
  go_upto_region 2 with (go_at_call 46; refine Hpa.out.mono ?_; rintro y w2 ⟨rfl, B2⟩)
  have hq := HR.out.bel B2
  have Hq := Lib.hid hq
  have Hrg2 := Lib.hid hq.rng
  clear hq
  go_wp2_with (first
    | (refine L_loadG 31 _ rfl (by rfl) _ _ rfl _ _ Hrg2.out Tryd.underlying31 rfl iMsg ?_)
    | (go_at_call 53; refine (HBa.out w2).mono ?_; rintro y w3 ⟨rfl, B3⟩; have Hq3 := Lib.hid (Hq.out.bel B3))
    | (go_at_call 52; refine (HE.out w3).mono ?_; rintro y w4 ⟨rfl, B4⟩; have hq4 := Hq3.out.bel B4; have c12 : w4.cell? ⟨k, 12, none⟩ = some (.slice s.rs.a s.rs.n s.rs.c) := hq4.at_ 12; have c1 : w4.cell? ⟨k, 1, none⟩ = some (.int .u64 (m.id : Int)) := hq4.at_ 1; have c2 : w4.cell? ⟨k, 2, none⟩ = some (.int .u64 (m.alias : Int)) := hq4.at_ 2; have c11 : w4.cell? ⟨k, 11, none⟩ = some (.int .u64 (m.code : Int)) := hq4.at_ 11; have c13 : w4.cell? ⟨k, 13, none⟩ = some (.int .u64 (m.n : Int)) := hq4.at_ 13; have c14 : w4.cell? ⟨k, 14, none⟩ = some (.int .u64 (m.ver : Int)) := hq4.at_ 14; have c6 : w4.cell? ⟨k, 6, none⟩ = some (.int .u64 (m.sg : Int)) := hq4.at_ 6; have c7 : w4.cell? ⟨k, 7, none⟩ = some (.int .u64 (m.so : Int)) := hq4.at_ 7; have c8 : w4.cell? ⟨k, 8, none⟩ = some (.int .u64 (m.eg : Int)) := hq4.at_ 8; have c9 : w4.cell? ⟨k, 9, none⟩ = some (.int .u64 (m.eo : Int)) := hq4.at_ 9; clear hq4; dsimp only; go_wp2; go_ret; exact ⟨rfl, btr (btr (btr HB.out B2) B3) B4⟩))
set_option maxHeartbeats 4000000 in
theorem right_fR (w : World) (m : MG) (s : ML) (hm : MR w m s) (hK : KA w) (p : Nat) (hp : partsS m.kind = some p) (he : emptyM (bareM p m) = true) (hr : 64 < s.rs.n) :
    Calls Tryd.prog 45 #[.agg (mgc m s).toArray] w fun e w' => e = .returned (.bool false) ∧ Below w.heap.size w w' := by
  have hb := below_alloc w (.cells (mgc m s).toArray 31)
  have hR := CR.new w 31 (mgc m s)
  obtain ⟨w1, hw1⟩ : ∃ x, w.alloc (.cells (mgc m s).toArray 31) = x := ⟨_, rfl⟩
  obtain ⟨k, hk⟩ : ∃ k, w.heap.size = k := ⟨_, rfl⟩
  rw [hw1, hk] at hR
  rw [hw1] at hb
  have hpa := parts_any w1 m.kind (hK.bel hb (Nat.le_refl _))
  rw [hp] at hpa
  have Hpa := Lib.hid hpa
  have HR := Lib.hid hR
  have HB := Lib.hid hb
  have HE := Lib.hid (fun w' => empty_bare w' hm p)
  rw [he] at HE
  have HBa := Lib.hid (fun w' => bare_any w' m s p (parts_mem hp))
  obtain ⟨V, hV⟩ : ∃ V, Value.agg (mgc (bareM p m) (bareL p s)).toArray = V := ⟨_, rfl⟩
  rw [hV] at HE HBa
  have u0 : w1.cell? ⟨k, 0, none⟩ = some (.int .u64 (m.kind : Int)) := hR.at_ 0
  obtain ⟨X, hX⟩ : ∃ X, maxM m = X := ⟨_, rfl⟩
  have hr1 : (64 : Int) < (s.rs.n : Int) := by omega
  have HX := Lib.hid hX
  clear hb hR hpa hK hp he hm hX hV
  unfold mgc u64 SA.v at hw1 ⊢
  go_enter Tryd.func45, Tryd.ntmps45
  go_upto_region 2 with (go_at_call 46; refine Hpa.out.mono ?_; rintro y w2 ⟨rfl, B2⟩)
  have hq := HR.out.bel B2
  have Hq := Lib.hid hq
  have Hrg2 := Lib.hid hq.rng
  clear hq
  go_wp2_with (first
    | (refine L_loadG 31 _ rfl (by rfl) _ _ rfl _ _ Hrg2.out Tryd.underlying31 rfl iMsg ?_)
    | (go_at_call 53; refine (HBa.out w2).mono ?_; rintro y w3 ⟨rfl, B3⟩; have Hq3 := Lib.hid (Hq.out.bel B3))
    | (go_at_call 52; refine (HE.out w3).mono ?_; rintro y w4 ⟨rfl, B4⟩; have hq4 := Hq3.out.bel B4; have c12 : w4.cell? ⟨k, 12, none⟩ = some (.slice s.rs.a s.rs.n s.rs.c) := hq4.at_ 12; have c1 : w4.cell? ⟨k, 1, none⟩ = some (.int .u64 (m.id : Int)) := hq4.at_ 1; have c2 : w4.cell? ⟨k, 2, none⟩ = some (.int .u64 (m.alias : Int)) := hq4.at_ 2; have c11 : w4.cell? ⟨k, 11, none⟩ = some (.int .u64 (m.code : Int)) := hq4.at_ 11; have c13 : w4.cell? ⟨k, 13, none⟩ = some (.int .u64 (m.n : Int)) := hq4.at_ 13; have c14 : w4.cell? ⟨k, 14, none⟩ = some (.int .u64 (m.ver : Int)) := hq4.at_ 14; have c6 : w4.cell? ⟨k, 6, none⟩ = some (.int .u64 (m.sg : Int)) := hq4.at_ 6; have c7 : w4.cell? ⟨k, 7, none⟩ = some (.int .u64 (m.so : Int)) := hq4.at_ 7; have c8 : w4.cell? ⟨k, 8, none⟩ = some (.int .u64 (m.eg : Int)) := hq4.at_ 8; have c9 : w4.cell? ⟨k, 9, none⟩ = some (.int .u64 (m.eo : Int)) := hq4.at_ 9; clear hq4; dsimp only; go_wp2; go_ret; exact ⟨rfl, btr (btr (btr HB.out B2) B3) B4⟩))
set_option maxHeartbeats 4000000 in
theorem right_fX (w : World) (m : MG) (s : ML) (hm : MR w m s) (hK : KA w) (p : Nat) (hp : partsS m.kind = some p) (he : emptyM (bareM p m) = true) (hr : s.rs.n ≤ 64) (hx : 4611686018427387903 < maxM m) :
    Calls Tryd.prog 45 #[.agg (mgc m s).toArray] w fun e w' => e = .returned (.bool false) ∧ Below w.heap.size w w' := by
  have hb := below_alloc w (.cells (mgc m s).toArray 31)
  have hR := CR.new w 31 (mgc m s)
  obtain ⟨w1, hw1⟩ : ∃ x, w.alloc (.cells (mgc m s).toArray 31) = x := ⟨_, rfl⟩
  obtain ⟨k, hk⟩ : ∃ k, w.heap.size = k := ⟨_, rfl⟩
  rw [hw1, hk] at hR
  rw [hw1] at hb
  have hpa := parts_any w1 m.kind (hK.bel hb (Nat.le_refl _))
  rw [hp] at hpa
  have Hpa := Lib.hid hpa
  have HR := Lib.hid hR
  have HB := Lib.hid hb
  have HE := Lib.hid (fun w' => empty_bare w' hm p)
  rw [he] at HE
  have HBa := Lib.hid (fun w' => bare_any w' m s p (parts_mem hp))
  obtain ⟨V, hV⟩ : ∃ V, Value.agg (mgc (bareM p m) (bareL p s)).toArray = V := ⟨_, rfl⟩
  rw [hV] at HE HBa
  have u0 : w1.cell? ⟨k, 0, none⟩ = some (.int .u64 (m.kind : Int)) := hR.at_ 0
  obtain ⟨X, hX⟩ : ∃ X, maxM m = X := ⟨_, rfl⟩
  have hr1 : decide ((64 : Int) < (s.rs.n : Int)) = false := decide_eq_false (by omega); have hx1 : decide ((4611686018427387903 : Int) < (X : Int)) = true := decide_eq_true (by omega)
  have HX := Lib.hid hX
  clear hb hR hpa hK hp he hm hX hV
  unfold mgc u64 SA.v at hw1 ⊢
  go_enter Tryd.func45, Tryd.ntmps45
  go_upto_region 2 with (go_at_call 46; refine Hpa.out.mono ?_; rintro y w2 ⟨rfl, B2⟩)
  have hq := HR.out.bel B2
  have Hq := Lib.hid hq
  have Hrg2 := Lib.hid hq.rng
  clear hq
  go_wp2_with (first
    | (refine L_loadG 31 _ rfl (by rfl) _ _ rfl _ _ Hrg2.out Tryd.underlying31 rfl iMsg ?_)
    | (go_at_call 53; refine (HBa.out w2).mono ?_; rintro y w3 ⟨rfl, B3⟩; have Hq3 := Lib.hid (Hq.out.bel B3))
    | (go_at_call 52; refine (HE.out w3).mono ?_; rintro y w4 ⟨rfl, B4⟩; have hq4 := Hq3.out.bel B4; have c12 : w4.cell? ⟨k, 12, none⟩ = some (.slice s.rs.a s.rs.n s.rs.c) := hq4.at_ 12; have c1 : w4.cell? ⟨k, 1, none⟩ = some (.int .u64 (m.id : Int)) := hq4.at_ 1; have c2 : w4.cell? ⟨k, 2, none⟩ = some (.int .u64 (m.alias : Int)) := hq4.at_ 2; have c11 : w4.cell? ⟨k, 11, none⟩ = some (.int .u64 (m.code : Int)) := hq4.at_ 11; have c13 : w4.cell? ⟨k, 13, none⟩ = some (.int .u64 (m.n : Int)) := hq4.at_ 13; have c14 : w4.cell? ⟨k, 14, none⟩ = some (.int .u64 (m.ver : Int)) := hq4.at_ 14; have c6 : w4.cell? ⟨k, 6, none⟩ = some (.int .u64 (m.sg : Int)) := hq4.at_ 6; have c7 : w4.cell? ⟨k, 7, none⟩ = some (.int .u64 (m.so : Int)) := hq4.at_ 7; have c8 : w4.cell? ⟨k, 8, none⟩ = some (.int .u64 (m.eg : Int)) := hq4.at_ 8; have c9 : w4.cell? ⟨k, 9, none⟩ = some (.int .u64 (m.eo : Int)) := hq4.at_ 9; clear hq4; dsimp only; go_wp2_with (refine L_max9 rfl (by rfl) m rfl rfl rfl rfl rfl rfl rfl rfl rfl X HX.out ?_); go_ret; exact ⟨rfl, btr (btr (btr HB.out B2) B3) B4⟩))
end Go.Proofs.YtokgpnkooigamaaDoor
